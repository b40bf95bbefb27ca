/- Which weights may be; the sum of a block. -/
import Derived.Test.YtgbafijcklgajaaQKb
import Derived.Test.YtgbafijcklgajaaHa
import Derived.Test.YtgbafijcklgajaaKa
set_option linter.unusedVariables false
set_option linter.unusedSimpArgs false
set_option exponentiation.threshold 70
namespace Fw
open Go Go.Proofs

set_option maxRecDepth 20000 in
set_option maxHeartbeats 1000000 in
theorem c_knap_Valid (xs : List Int) : Fn Try.prog 32 [(kSl kZ).is xs] ((kInt .i64).is (wErr xs)) := by
  refine Con.enter Try.func32 rfl rfl fun m w => ?_
  refine ST.fact (i := 0) rfl sl_len fun hB => ?_
  refine CW.seq ?_
  refine CW.region ?_
  refine WP.s .n (O.asg rfl) ?_
  refine WP.nil ?_
  refine QE.next ?_
  refine CW.seq ?_
  refine CW.seq ?_
  refine CW.region ?_
  refine WP.s .n (O.mv rfl) ?_
  refine WP.s .n (O.lenS rfl Try.underlying27) ?_
  refine WP.s .n (O.lt rfl rfl) ?_
  refine WP.s .n (O.mv rfl) ?_
  refine WP.splitD 8 rfl (fun h_t8 => ?_) (fun h_t8 => ?_)
  · refine WP.k (b := true) rfl rfl ?_
    refine WP.k (b := true) rfl rfl ?_
    refine WP.k (b := true) rfl rfl ?_
    refine WP.s .n (O.pickT rfl rfl) ?_
    refine WP.nil ?_
    refine QE.next ?_
    refine CW.condT rfl ?_
    refine CW.seq ?_
    refine CW.region ?_
    refine WP.s .n (O.asg rfl) ?_
    refine WP.nil ?_
    refine QE.next ?_
    refine CW.ret ?_
    refine QE.thenR ?_
    refine ST.told 2 rfl (is_eq (y := (wErr xs)) (wErr_len (by omega))) ?_
    exact QE.done (.inl rfl) rfl (ResOk.t rfl ResOk.nil) (OImp.sub (List.nil_sublist _)) ⟨rfl, rfl⟩
  · refine WP.s (.g rfl rfl) (O.mv rfl) ?_
    refine WP.s (.g rfl rfl) (O.lenS rfl Try.underlying27) ?_
    refine WP.s (.g rfl rfl) (O.gt rfl rfl) ?_
    refine WP.s .n (O.pickF rfl rfl) ?_
    refine WP.nil ?_
    refine QE.next ?_
    refine CW.condD rfl (fun h_t12 => ?_) (fun h_t12 => ?_)
    · refine CW.seq ?_
      refine CW.region ?_
      refine WP.s .n (O.asg rfl) ?_
      refine WP.nil ?_
      refine QE.next ?_
      refine CW.ret ?_
      refine QE.thenR ?_
      refine ST.told 2 rfl (is_eq (y := (wErr xs)) (wErr_len (by omega))) ?_
      exact QE.done (.inl rfl) rfl (ResOk.t rfl ResOk.nil) (OImp.sub (List.nil_sublist _)) ⟨rfl, rfl⟩
    · refine CW.skip ?_
      refine QE.next ?_
      refine CW.seq ?_
      refine CW.seq ?_
      refine CW.region ?_
      refine WP.s .n (O.mv rfl) ?_
      refine WP.s .n (O.lenS rfl Try.underlying27) ?_
      refine WP.s .n (O.mv rfl) ?_
      refine WP.nil ?_
      refine QE.next ?_
      refine CW.block ?_
      refine CW.loop (fun (i : Nat) => i ≤ xs.length ∧ wTo xs i) (fun (i : Nat) => [(13, (kSl kZ).is xs), (14, (kInt .i64).is (xs.length : Int)), (15, (kInt .i64).is (i : Int))]) (fun (i : Nat) => []) (fun (i : Nat) => xs.length - i) 0 ⟨Nat.zero_le _, wTo_0 xs⟩ (Imp.cons rfl (Imp.cons rfl (Imp.consLe rfl (is_eq (y := (0 : Int)) (by omega)) Imp.nil))) (OImp.refl _) ?_
      intro i ⟨hi, ht⟩
      refine CW.seq ?_
      refine CW.region ?_
      refine WP.s .n (O.lt rfl rfl) ?_
      refine WP.nil ?_
      refine QE.next ?_
      refine CW.seq ?_
      refine CW.condD rfl (fun h_t16 => ?_) (fun h_t16 => ?_)
      · refine CW.skip ?_
        refine QE.next ?_
        refine CW.seq ?_
        refine CW.block ?_
        refine CW.seq ?_
        refine CW.region ?_
        refine WP.s .n (O.ix i rfl rfl Try.underlying27 ty31 rfl (v := (xs.getD i 0)) (gd 0 (by omega))) ?_
        refine WP.s .n (O.ldP rfl ty31) ?_
        refine WP.al .n z31_C fun b1 => ?_
        refine WP.t .n (O.stW (l := kZ) (u := (xs.getD i 0)) 0 rfl rfl rfl ty31 rfl (VP.le_refl _)) ?_
        refine WP.nil ?_
        refine QE.next ?_
        refine CW.seq ?_
        refine CW.region ?_
        refine WP.s .n (O.ld rfl (mem_at 0 rfl) (Lens.id _) ty31 rfl) ?_
        refine WP.s .n (O.fn fn80 (evs.c rfl evs.nil) (c_zint_Sign (xs.getD i 0))) ?_
        refine WP.s .n (O.le rfl rfl) ?_
        refine WP.s .n (O.mv rfl) ?_
        refine WP.splitD 22 rfl (fun h_t22 => ?_) (fun h_t22 => ?_)
        · refine WP.k (b := true) rfl rfl ?_
          refine WP.k (b := true) rfl rfl ?_
          refine WP.k (b := true) rfl rfl ?_
          refine WP.s .n (O.pickT rfl rfl) ?_
          refine WP.nil ?_
          refine QE.next ?_
          refine CW.condT rfl ?_
          refine CW.seq ?_
          refine CW.region ?_
          refine WP.s .n (O.asg rfl) ?_
          refine WP.nil ?_
          refine QE.next ?_
          refine CW.ret ?_
          refine QE.blkR ?_
          refine QE.thenR ?_
          refine QE.thenR ?_
          refine QE.blkR ?_
          refine QE.thenR ?_
          refine ST.told 2 rfl (is_eq (y := (wErr xs)) (wErr_bad (i := i) (by omega) (.inl h_t22))) ?_
          exact QE.done (.inl rfl) rfl (ResOk.t rfl ResOk.nil) (OImp.sub (List.nil_sublist _)) ⟨rfl, rfl⟩
        · refine WP.s (.g rfl rfl) (O.ld rfl (mem_at 0 rfl) (Lens.id _) ty31 rfl) ?_
          refine WP.s (.g rfl rfl) (O.fn fn96 (evs.c rfl evs.nil) (c_zint_Bits (xs.getD i 0))) ?_
          refine WP.s (.g rfl rfl) (O.gt rfl rfl) ?_
          refine WP.s .n (O.pickF rfl rfl) ?_
          refine WP.nil ?_
          refine QE.next ?_
          refine CW.condD rfl (fun h_t26 => ?_) (fun h_t26 => ?_)
          · refine CW.seq ?_
            refine CW.region ?_
            refine WP.s .n (O.asg rfl) ?_
            refine WP.nil ?_
            refine QE.next ?_
            refine CW.ret ?_
            refine QE.blkR ?_
            refine QE.thenR ?_
            refine QE.thenR ?_
            refine QE.blkR ?_
            refine QE.thenR ?_
            refine ST.told 2 rfl (is_eq (y := (wErr xs)) (wErr_bad (i := i) (by omega) (.inr h_t26))) ?_
            exact QE.done (.inl rfl) rfl (ResOk.t rfl ResOk.nil) (OImp.sub (List.nil_sublist _)) ⟨rfl, rfl⟩
          · refine CW.skip ?_
            refine QE.blkN ?_
            refine QE.next ?_
            refine CW.region ?_
            refine WP.s .n (O.add rfl rfl (c := ((i : Int) + 1)) (w64 (by omega))) ?_
            refine WP.s .n (O.mv rfl) ?_
            refine WP.nil ?_
            exact QE.round (i + 1) (by omega) ⟨by omega, wTo_s (by omega) ht h_t22 h_t26⟩ (Imp.cons rfl (Imp.cons rfl (Imp.consLe rfl (is_eq (y := (((i + 1) : Nat) : Int)) (by omega)) Imp.nil))) (OImp.sub (List.nil_sublist _))
      · refine CW.exit ?_
        refine QE.thenE ?_
        refine QE.thenE ?_
        refine QE.blkH ?_
        refine QE.next ?_
        refine CW.seq ?_
        refine CW.region ?_
        refine WP.s .n (O.asg rfl) ?_
        refine WP.nil ?_
        refine QE.next ?_
        refine CW.ret ?_
        refine ST.told 2 rfl (is_eq (y := (wErr xs)) (wErr_ok (i := i) (by omega) (by omega) ht)) ?_
        exact QE.done (.inl rfl) rfl (ResOk.t rfl ResOk.nil) (OImp.sub (List.nil_sublist _)) ⟨rfl, rfl⟩

set_option maxRecDepth 20000 in
set_option maxHeartbeats 1000000 in
theorem c_ref24_Valid (xs : List Int) : Fn Try.prog 31 [(kSl kZ).is xs] ((kInt .i64).is (wErr xs)) := by
  refine Con.enter Try.func31 rfl rfl fun m w => ?_
  refine ST.fact (i := 0) rfl sl_len fun hB => ?_
  refine CW.seq ?_
  refine CW.region ?_
  refine WP.s .n (O.asg rfl) ?_
  refine WP.nil ?_
  refine QE.next ?_
  refine CW.seq ?_
  refine CW.seq ?_
  refine CW.region ?_
  refine WP.s .n (O.mv rfl) ?_
  refine WP.s .n (O.lenS rfl Try.underlying27) ?_
  refine WP.s .n (O.lt rfl rfl) ?_
  refine WP.s .n (O.mv rfl) ?_
  refine WP.splitD 7 rfl (fun h_t7 => ?_) (fun h_t7 => ?_)
  · refine WP.k (b := true) rfl rfl ?_
    refine WP.k (b := true) rfl rfl ?_
    refine WP.k (b := true) rfl rfl ?_
    refine WP.s .n (O.pickT rfl rfl) ?_
    refine WP.nil ?_
    refine QE.next ?_
    refine CW.condT rfl ?_
    refine CW.seq ?_
    refine CW.region ?_
    refine WP.s .n (O.asg rfl) ?_
    refine WP.nil ?_
    refine QE.next ?_
    refine CW.ret ?_
    refine QE.thenR ?_
    refine ST.told 2 rfl (is_eq (y := (wErr xs)) (wErr_len (by omega))) ?_
    exact QE.done (.inl rfl) rfl (ResOk.t rfl ResOk.nil) (OImp.sub (List.nil_sublist _)) ⟨rfl, rfl⟩
  · refine WP.s (.g rfl rfl) (O.mv rfl) ?_
    refine WP.s (.g rfl rfl) (O.lenS rfl Try.underlying27) ?_
    refine WP.s (.g rfl rfl) (O.gt rfl rfl) ?_
    refine WP.s .n (O.pickF rfl rfl) ?_
    refine WP.nil ?_
    refine QE.next ?_
    refine CW.condD rfl (fun h_t11 => ?_) (fun h_t11 => ?_)
    · refine CW.seq ?_
      refine CW.region ?_
      refine WP.s .n (O.asg rfl) ?_
      refine WP.nil ?_
      refine QE.next ?_
      refine CW.ret ?_
      refine QE.thenR ?_
      refine ST.told 2 rfl (is_eq (y := (wErr xs)) (wErr_len (by omega))) ?_
      exact QE.done (.inl rfl) rfl (ResOk.t rfl ResOk.nil) (OImp.sub (List.nil_sublist _)) ⟨rfl, rfl⟩
    · refine CW.skip ?_
      refine QE.next ?_
      refine CW.seq ?_
      refine CW.seq ?_
      refine CW.region ?_
      refine WP.s .n (O.asg rfl) ?_
      refine WP.nil ?_
      refine QE.next ?_
      refine CW.block ?_
      refine CW.loop (fun (i : Nat) => i ≤ xs.length ∧ wTo xs i) (fun (i : Nat) => [(0, (kSl kZ).is xs), (3, (kInt .i64).is (i : Int))]) (fun (i : Nat) => []) (fun (i : Nat) => xs.length - i) 0 ⟨Nat.zero_le _, wTo_0 xs⟩ (Imp.cons rfl (Imp.consLe rfl (is_eq (y := (0 : Int)) (by omega)) Imp.nil)) (OImp.refl _) ?_
      intro i ⟨hi, ht⟩
      refine CW.seq ?_
      refine CW.seq ?_
      refine CW.region ?_
      refine WP.s .n (O.mv rfl) ?_
      refine WP.s .n (O.mv rfl) ?_
      refine WP.s .n (O.lenS rfl Try.underlying27) ?_
      refine WP.s .n (O.lt rfl rfl) ?_
      refine WP.nil ?_
      refine QE.next ?_
      refine CW.condD rfl (fun h_t15 => ?_) (fun h_t15 => ?_)
      · refine CW.skip ?_
        refine QE.next ?_
        refine CW.seq ?_
        refine CW.block ?_
        refine CW.seq ?_
        refine CW.region ?_
        refine WP.s .n (O.mv rfl) ?_
        refine WP.s .n (O.mv rfl) ?_
        refine WP.s .n (O.ix i rfl rfl Try.underlying27 ty31 rfl (v := (xs.getD i 0)) (gd 0 (by omega))) ?_
        refine WP.s .n (O.ldP rfl ty31) ?_
        refine WP.s .n (O.fn fn83 (evs.c rfl evs.nil) (c_ref02_Sign (xs.getD i 0))) ?_
        refine WP.s .n (O.le rfl rfl) ?_
        refine WP.s .n (O.mv rfl) ?_
        refine WP.splitD 24 rfl (fun h_t24 => ?_) (fun h_t24 => ?_)
        · refine WP.k (b := true) rfl rfl ?_
          refine WP.k (b := true) rfl rfl ?_
          refine WP.k (b := true) rfl rfl ?_
          refine WP.k (b := true) rfl rfl ?_
          refine WP.k (b := true) rfl rfl ?_
          refine WP.k (b := true) rfl rfl ?_
          refine WP.s .n (O.pickT rfl rfl) ?_
          refine WP.nil ?_
          refine QE.next ?_
          refine CW.condT rfl ?_
          refine CW.seq ?_
          refine CW.region ?_
          refine WP.s .n (O.asg rfl) ?_
          refine WP.nil ?_
          refine QE.next ?_
          refine CW.ret ?_
          refine QE.blkR ?_
          refine QE.thenR ?_
          refine QE.thenR ?_
          refine QE.blkR ?_
          refine QE.thenR ?_
          refine ST.told 2 rfl (is_eq (y := (wErr xs)) (wErr_bad (i := i) (by omega) (.inl h_t24))) ?_
          exact QE.done (.inl rfl) rfl (ResOk.t rfl ResOk.nil) (OImp.sub (List.nil_sublist _)) ⟨rfl, rfl⟩
        · refine WP.s (.g rfl rfl) (O.mv rfl) ?_
          refine WP.s (.g rfl rfl) (O.mv rfl) ?_
          refine WP.s (.g rfl rfl) (O.ix i rfl rfl Try.underlying27 ty31 rfl (v := (xs.getD i 0)) (gd 0 (by omega))) ?_
          refine WP.s (.g rfl rfl) (O.ldP rfl ty31) ?_
          refine WP.s (.g rfl rfl) (O.fn fn95 (evs.c rfl evs.nil) (c_ref02_Bits (xs.getD i 0))) ?_
          refine WP.s (.g rfl rfl) (O.gt rfl rfl) ?_
          refine WP.s .n (O.pickF rfl rfl) ?_
          refine WP.nil ?_
          refine QE.next ?_
          refine CW.condD rfl (fun h_t31 => ?_) (fun h_t31 => ?_)
          · refine CW.seq ?_
            refine CW.region ?_
            refine WP.s .n (O.asg rfl) ?_
            refine WP.nil ?_
            refine QE.next ?_
            refine CW.ret ?_
            refine QE.blkR ?_
            refine QE.thenR ?_
            refine QE.thenR ?_
            refine QE.blkR ?_
            refine QE.thenR ?_
            refine ST.told 2 rfl (is_eq (y := (wErr xs)) (wErr_bad (i := i) (by omega) (.inr h_t31))) ?_
            exact QE.done (.inl rfl) rfl (ResOk.t rfl ResOk.nil) (OImp.sub (List.nil_sublist _)) ⟨rfl, rfl⟩
          · refine CW.skip ?_
            refine QE.blkN ?_
            refine QE.next ?_
            refine CW.region ?_
            refine WP.s .n (O.mv rfl) ?_
            refine WP.s .n (O.add rfl rfl (c := ((i : Int) + 1)) (w64 (by omega))) ?_
            refine WP.s .n (O.asg rfl) ?_
            refine WP.nil ?_
            exact QE.round (i + 1) (by omega) ⟨by omega, wTo_s (by omega) ht h_t24 h_t31⟩ (Imp.cons rfl (Imp.consLe rfl (is_eq (y := (((i + 1) : Nat) : Int)) (by omega)) Imp.nil)) (OImp.refl _)
      · refine CW.exit ?_
        refine QE.thenE ?_
        refine QE.thenE ?_
        refine QE.blkH ?_
        refine QE.next ?_
        refine CW.seq ?_
        refine CW.region ?_
        refine WP.s .n (O.asg rfl) ?_
        refine WP.nil ?_
        refine QE.next ?_
        refine CW.ret ?_
        refine ST.told 2 rfl (is_eq (y := (wErr xs)) (wErr_ok (i := i) (by omega) (by omega) ht)) ?_
        exact QE.done (.inl rfl) rfl (ResOk.t rfl ResOk.nil) (OImp.sub (List.nil_sublist _)) ⟨rfl, rfl⟩

set_option maxRecDepth 20000 in
set_option maxHeartbeats 1000000 in
theorem c_knap_Seal (xs bs : List Int) : Fn Try.prog 15 [(kSl kZ).is xs, (kSl kI64).is bs] (VP.tup [kC.is ((sealV xs bs).1), (kInt .i64).is ((sealV xs bs).2)]) := by
  refine Con.enter Try.func15 rfl rfl fun m w => ?_
  refine ST.fact (i := 0) rfl sl_len fun hB => ?_
  refine ST.fact (i := 1) rfl sl_len fun hC => ?_
  refine CW.seq ?_
  refine CW.region ?_
  refine WP.al .n z31_C fun b1 => ?_
  refine WP.s .n (O.asg rfl) ?_
  refine WP.nil ?_
  refine QE.next ?_
  refine CW.seq ?_
  refine CW.seq ?_
  refine CW.region ?_
  refine WP.s .n (O.mv rfl) ?_
  refine WP.s .n (O.fn fn32 (evs.c rfl evs.nil) (c_knap_Valid xs)) ?_
  refine WP.s .n (O.asg rfl) ?_
  refine WP.nil ?_
  refine QE.next ?_
  refine CW.seq ?_
  refine CW.region ?_
  refine WP.s .n (O.mv rfl) ?_
  refine WP.s .n (O.ne rfl rfl) ?_
  refine WP.nil ?_
  refine QE.next ?_
  refine CW.condD rfl (fun h_t13 => ?_) (fun h_t13 => ?_)
  · refine CW.seq ?_
    refine CW.region ?_
    refine WP.s .n (O.bld lit31_C rfl evp.n (.nil _)) ?_
    refine WP.s .n (O.mv rfl) ?_
    refine WP.t .n (O.stW (l := kC) (u := 0) 0 rfl rfl rfl ty31 rfl (VP.le_refl _)) ?_
    refine WP.s .n (O.asg rfl) ?_
    refine WP.nil ?_
    refine QE.next ?_
    refine CW.ret ?_
    refine QE.thenR ?_
    refine ST.obtold 0 rfl (OB.box_eq (y := ((sealV xs bs).1)) (by rw [sealV_e1 h_t13])) ?_
    refine ST.told 5 rfl (is_eq (y := ((sealV xs bs).2)) (by rw [sealV_e1 h_t13])) ?_
    exact QE.done (.inl rfl) rfl (ResOk.c rfl (mem_at 0 rfl) ty31 (ResOk.t rfl ResOk.nil)) (OImp.sub (List.nil_sublist _)) ⟨rfl, rfl⟩
  · refine CW.skip ?_
    refine QE.next ?_
    refine CW.seq ?_
    refine CW.seq ?_
    refine CW.region ?_
    refine WP.s .n (O.mv rfl) ?_
    refine WP.s .n (O.lenS rfl Try.underlying28) ?_
    refine WP.s .n (O.mv rfl) ?_
    refine WP.s .n (O.lenS rfl Try.underlying27) ?_
    refine WP.s .n (O.ne rfl rfl) ?_
    refine WP.nil ?_
    refine QE.next ?_
    refine CW.condD rfl (fun h_t20 => ?_) (fun h_t20 => ?_)
    · refine CW.seq ?_
      refine CW.region ?_
      refine WP.s .n (O.bld lit31_C rfl evp.n (.nil _)) ?_
      refine WP.t .n (O.stW (l := kC) (u := 0) 0 rfl rfl rfl ty31 rfl (VP.le_refl _)) ?_
      refine WP.s .n (O.asg rfl) ?_
      refine WP.nil ?_
      refine QE.next ?_
      refine CW.ret ?_
      refine QE.thenR ?_
      refine ST.obtold 0 rfl (OB.box_eq (y := ((sealV xs bs).1)) (by rw [sealV_e2 h_t13 (by omega)])) ?_
      refine ST.told 5 rfl (is_eq (y := ((sealV xs bs).2)) (by rw [sealV_e2 h_t13 (by omega)])) ?_
      exact QE.done (.inl rfl) rfl (ResOk.c rfl (mem_at 0 rfl) ty31 (ResOk.t rfl ResOk.nil)) (OImp.sub (List.nil_sublist _)) ⟨rfl, rfl⟩
    · refine CW.skip ?_
      refine QE.next ?_
      refine CW.seq ?_
      refine CW.region ?_
      refine WP.al .n z31_C fun b2 => ?_
      refine WP.nil ?_
      refine QE.next ?_
      refine CW.seq ?_
      refine CW.seq ?_
      refine CW.region ?_
      refine WP.s .n (O.mv rfl) ?_
      refine WP.s .n (O.lenS rfl Try.underlying28) ?_
      refine WP.s .n (O.mv rfl) ?_
      refine WP.nil ?_
      refine QE.next ?_
      refine CW.block ?_
      refine CW.loop (fun (i : Nat) => i ≤ bs.length ∧ sealTo bs i) (fun (i : Nat) => [(0, (kSl kZ).is xs), (1, (kSl kI64).is bs), (4, VP.ex (.pointer (some ⟨b1, 0, none⟩))), (5, (kInt .i64).is 0), (7, VP.ex (.pointer (some ⟨b2, 0, none⟩))), (22, (kSl kI64).is bs), (23, (kInt .i64).is (bs.length : Int)), (24, (kInt .i64).is (i : Int))]) (fun (i : Nat) => [OB.box b2 31 kC (sealN xs bs i), OB.box b1 31 kC 0]) (fun (i : Nat) => bs.length - i) 0 ⟨Nat.zero_le _, sealTo_0 bs⟩ (Imp.cons rfl (Imp.cons rfl (Imp.cons rfl (Imp.cons rfl (Imp.cons rfl (Imp.cons rfl (Imp.cons rfl (Imp.consLe rfl (is_eq (y := (0 : Int)) (by first | omega | rfl)) Imp.nil)))))))) (OImp.os (OS.keepLe (OB.box_eq (by first | omega | rfl)) (OS.keep OS.nil))) ?_
      intro i ⟨hi, ht⟩
      have hSm := sealN_Sm (bs := bs) (i := i) h_t13 (by omega)
      refine CW.seq ?_
      refine CW.region ?_
      refine WP.s .n (O.lt rfl rfl) ?_
      refine WP.nil ?_
      refine QE.next ?_
      refine CW.seq ?_
      refine CW.condD rfl (fun h_t25 => ?_) (fun h_t25 => ?_)
      · refine CW.skip ?_
        refine QE.next ?_
        refine CW.seq ?_
        refine CW.block ?_
        refine CW.seq ?_
        refine CW.region ?_
        refine WP.s .n (O.mv rfl) ?_
        refine WP.s .n (O.ix i rfl rfl Try.underlying28 ty3 rfl (v := (bs.getD i 0)) (gd 0 (by omega))) ?_
        refine WP.s .n (OpOk.le (O.ldP rfl ty3) (i64_le _)) ?_
        refine WP.s .n (O.asg rfl) ?_
        refine WP.s .n (O.asg rfl) ?_
        refine WP.nil ?_
        refine QE.next ?_
        refine CW.seq ?_
        refine CW.region ?_
        refine WP.s .n (O.mv rfl) ?_
        refine WP.nil ?_
        refine QE.next ?_
        refine CW.block ?_
        refine CW.seq ?_
        refine CW.region ?_
        refine WP.s .n (O.eq rfl rfl) ?_
        refine WP.s .n (O.asg rfl) ?_
        refine WP.nil ?_
        refine QE.next ?_
        refine CW.condD rfl (fun h_t31 => ?_) (fun h_t31 => ?_)
        · refine CW.skip ?_
          refine QE.blkN ?_
          refine QE.blkN ?_
          refine QE.next ?_
          refine CW.region ?_
          refine WP.s .n (O.add rfl rfl (c := ((i : Int) + 1)) (w64 (by omega))) ?_
          refine WP.s .n (O.mv rfl) ?_
          refine WP.nil ?_
          refine ST.obtold 0 rfl (OB.box_eq (y := (sealN xs bs (i + 1))) (sealN_0 h_t31)) ?_
          exact QE.round (i + 1) (by omega) ⟨by omega, sealTo_s (by omega) ht (.inl h_t31)⟩ (Imp.cons rfl (Imp.cons rfl (Imp.cons rfl (Imp.cons rfl (Imp.cons rfl (Imp.cons rfl (Imp.cons rfl (Imp.consLe rfl (is_eq (y := (((i + 1) : Nat) : Int)) (by first | omega | rfl)) Imp.nil)))))))) (OImp.refl _)
        · refine CW.seq ?_
          refine CW.region ?_
          refine WP.s .n (O.eq rfl rfl) ?_
          refine WP.s .n (O.asg rfl) ?_
          refine WP.nil ?_
          refine QE.next ?_
          refine CW.condD rfl (fun h_t33 => ?_) (fun h_t33 => ?_)
          · refine CW.draw (Γ := [.fr (kC.is (sealN xs bs i)), .fr ((kSl kZ).is xs), .fr ((kInt .i64).is (i : Int)), .fr (VP.pim kZ (xs.getD i 0)), .fr (kZ.is (xs.getD i 0)), .fr (kC.is ((sealN xs bs i) + (xs.getD i 0)))]) (lates := [false, false, false, false, false, false]) (by kernel_rfl) (Chk.of rfl (by kernel_rfl) rfl) (fun _ _ _ _ _ h => h) (fun q_ x_ h_ => ?_) (fun σ => ?_)
            · match q_, h_ with
              | 0, h_ => cases h_; exact Ob.f rfl .n fun N => (O.ld rfl (mem_app N (mem_at 0 rfl)) (Lens.id _) ty31 rfl)
              | 1, h_ => cases h_; exact Ob.f rfl .n fun N => (O.mv rfl)
              | 2, h_ => cases h_; exact Ob.f rfl .n fun N => (O.mv rfl)
              | 3, h_ => cases h_; exact Ob.f rfl .n fun N => (O.ix i rfl rfl Try.underlying27 ty31 rfl (v := (xs.getD i 0)) (gd 0 (by omega)))
              | 4, h_ => cases h_; exact Ob.f rfl .n fun N => (O.ldP rfl ty31)
              | 5, h_ => cases h_; exact Ob.f rfl .n fun N => (O.fn fn77 (evs.l rfl (kC_Z (by assumption)) (evs.c rfl evs.nil)) (c_zint_Add (sealN xs bs i) (xs.getD i 0)))
              | n_ + 6, h_ => simp at h_
            refine WP.t .n (O.stW (l := kC) (u := (sealN xs bs i) + (xs.getD i 0)) 0 rfl rfl rfl ty31 rfl (VP.le_refl _)) ?_
            refine WP.nil ?_
            refine QE.blkN ?_
            refine QE.blkN ?_
            refine QE.next ?_
            refine CW.region ?_
            refine WP.s .n (O.add rfl rfl (c := ((i : Int) + 1)) (w64 (by omega))) ?_
            refine WP.s .n (O.mv rfl) ?_
            refine WP.nil ?_
            refine ST.obtold 0 rfl (OB.box_eq (y := (sealN xs bs (i + 1))) (sealN_1 h_t33)) ?_
            exact QE.round (i + 1) (by omega) ⟨by omega, sealTo_s (by omega) ht (.inr h_t33)⟩ (Imp.cons rfl (Imp.cons rfl (Imp.cons rfl (Imp.cons rfl (Imp.cons rfl (Imp.cons rfl (Imp.cons rfl (Imp.consLe rfl (is_eq (y := (((i + 1) : Nat) : Int)) (by first | omega | rfl)) Imp.nil)))))))) (OImp.refl _)
          · refine CW.seq ?_
            refine CW.region ?_
            refine WP.s .n (O.bld lit31_C rfl evp.n (.nil _)) ?_
            refine WP.t .n (O.stW (l := kC) (u := 0) 1 rfl rfl rfl ty31 rfl (VP.le_refl _)) ?_
            refine WP.s .n (O.asg rfl) ?_
            refine WP.nil ?_
            refine QE.next ?_
            refine CW.ret ?_
            refine QE.blkR ?_
            refine QE.blkR ?_
            refine QE.thenR ?_
            refine QE.thenR ?_
            refine QE.blkR ?_
            refine QE.thenR ?_
            refine ST.obtold 1 rfl (OB.box_eq (y := ((sealV xs bs).1)) (by rw [sealV_e3 h_t13 (by omega) (by omega) h_t31 h_t33])) ?_
            refine ST.told 5 rfl (is_eq (y := ((sealV xs bs).2)) (by rw [sealV_e3 h_t13 (by omega) (by omega) h_t31 h_t33])) ?_
            exact QE.done (.inl rfl) rfl (ResOk.c rfl (mem_at 1 rfl) ty31 (ResOk.t rfl ResOk.nil)) (OImp.sub (List.nil_sublist _)) ⟨rfl, rfl⟩
      · refine CW.exit ?_
        refine QE.thenE ?_
        refine QE.thenE ?_
        refine QE.blkH ?_
        refine QE.next ?_
        refine CW.seq ?_
        refine CW.region ?_
        refine WP.s .n (O.ld rfl (mem_at 0 rfl) (Lens.id _) ty31 rfl) ?_
        refine WP.t .n (O.stW (l := kC) (u := sealN xs bs i) 1 rfl rfl rfl ty31 rfl (VP.le_refl _)) ?_
        refine WP.s .n (O.asg rfl) ?_
        refine WP.nil ?_
        refine QE.next ?_
        refine CW.ret ?_
        refine ST.obtold 1 rfl (OB.box_eq (y := ((sealV xs bs).1)) (by rw [sealV_ok h_t13 (by omega) (i := i) (by omega) ht])) ?_
        refine ST.told 5 rfl (is_eq (y := ((sealV xs bs).2)) (by rw [sealV_ok h_t13 (by omega) (i := i) (by omega) ht])) ?_
        exact QE.done (.inl rfl) rfl (ResOk.c rfl (mem_at 1 rfl) ty31 (ResOk.t rfl ResOk.nil)) (OImp.sub (List.nil_sublist _)) ⟨rfl, rfl⟩

set_option maxRecDepth 20000 in
set_option maxHeartbeats 1000000 in
theorem c_ref24_Seal (xs bs : List Int) : Fn Try.prog 17 [(kSl kZ).is xs, (kSl kI64).is bs] (VP.tup [kC.is ((sealV xs bs).1), (kInt .i64).is ((sealV xs bs).2)]) := by
  refine Con.enter Try.func17 rfl rfl fun m w => ?_
  refine ST.fact (i := 0) rfl sl_len fun hB => ?_
  refine ST.fact (i := 1) rfl sl_len fun hC => ?_
  refine CW.seq ?_
  refine CW.region ?_
  refine WP.al .n z31_C fun b1 => ?_
  refine WP.s .n (O.asg rfl) ?_
  refine WP.nil ?_
  refine QE.next ?_
  refine CW.seq ?_
  refine CW.region ?_
  refine WP.s .n (O.mv rfl) ?_
  refine WP.s .n (O.fn fn31 (evs.c rfl evs.nil) (c_ref24_Valid xs)) ?_
  refine WP.s .n (O.asg rfl) ?_
  refine WP.nil ?_
  refine QE.next ?_
  refine CW.seq ?_
  refine CW.seq ?_
  refine CW.region ?_
  refine WP.s .n (O.mv rfl) ?_
  refine WP.s .n (O.ne rfl rfl) ?_
  refine WP.nil ?_
  refine QE.next ?_
  refine CW.condD rfl (fun h_t12 => ?_) (fun h_t12 => ?_)
  · refine CW.seq ?_
    refine CW.region ?_
    refine WP.s .n (O.bld lit31_C rfl evp.n (.nil _)) ?_
    refine WP.s .n (O.mv rfl) ?_
    refine WP.t .n (O.stW (l := kC) (u := 0) 0 rfl rfl rfl ty31 rfl (VP.le_refl _)) ?_
    refine WP.s .n (O.asg rfl) ?_
    refine WP.nil ?_
    refine QE.next ?_
    refine CW.ret ?_
    refine QE.thenR ?_
    refine ST.obtold 0 rfl (OB.box_eq (y := ((sealV xs bs).1)) (by rw [sealV_e1 h_t12])) ?_
    refine ST.told 5 rfl (is_eq (y := ((sealV xs bs).2)) (by rw [sealV_e1 h_t12])) ?_
    exact QE.done (.inl rfl) rfl (ResOk.c rfl (mem_at 0 rfl) ty31 (ResOk.t rfl ResOk.nil)) (OImp.sub (List.nil_sublist _)) ⟨rfl, rfl⟩
  · refine CW.skip ?_
    refine QE.next ?_
    refine CW.seq ?_
    refine CW.seq ?_
    refine CW.region ?_
    refine WP.s .n (O.mv rfl) ?_
    refine WP.s .n (O.lenS rfl Try.underlying28) ?_
    refine WP.s .n (O.mv rfl) ?_
    refine WP.s .n (O.lenS rfl Try.underlying27) ?_
    refine WP.s .n (O.ne rfl rfl) ?_
    refine WP.nil ?_
    refine QE.next ?_
    refine CW.condD rfl (fun h_t19 => ?_) (fun h_t19 => ?_)
    · refine CW.seq ?_
      refine CW.region ?_
      refine WP.s .n (O.bld lit31_C rfl evp.n (.nil _)) ?_
      refine WP.t .n (O.stW (l := kC) (u := 0) 0 rfl rfl rfl ty31 rfl (VP.le_refl _)) ?_
      refine WP.s .n (O.asg rfl) ?_
      refine WP.nil ?_
      refine QE.next ?_
      refine CW.ret ?_
      refine QE.thenR ?_
      refine ST.obtold 0 rfl (OB.box_eq (y := ((sealV xs bs).1)) (by rw [sealV_e2 h_t12 (by omega)])) ?_
      refine ST.told 5 rfl (is_eq (y := ((sealV xs bs).2)) (by rw [sealV_e2 h_t12 (by omega)])) ?_
      exact QE.done (.inl rfl) rfl (ResOk.c rfl (mem_at 0 rfl) ty31 (ResOk.t rfl ResOk.nil)) (OImp.sub (List.nil_sublist _)) ⟨rfl, rfl⟩
    · refine CW.skip ?_
      refine QE.next ?_
      refine CW.seq ?_
      refine CW.region ?_
      refine WP.s .n (O.fn fn78 (evs.l rfl (i64_int (by omega)) evs.nil) (c_ref02_Of 0)) ?_
      refine WP.al .n z31_C fun b2 => ?_
      refine WP.t .n (O.stW (l := kC) (u := 0) 0 rfl rfl rfl ty31 rfl (VP.le_refl _)) ?_
      refine WP.nil ?_
      refine QE.next ?_
      refine CW.seq ?_
      refine CW.seq ?_
      refine CW.region ?_
      refine WP.s .n (O.asg rfl) ?_
      refine WP.nil ?_
      refine QE.next ?_
      refine CW.block ?_
      refine CW.loop (fun (i : Nat) => i ≤ bs.length ∧ sealTo bs i) (fun (i : Nat) => [(0, (kSl kZ).is xs), (1, (kSl kI64).is bs), (4, VP.ex (.pointer (some ⟨b1, 0, none⟩))), (5, (kInt .i64).is 0), (7, VP.ex (.pointer (some ⟨b2, 0, none⟩))), (8, (kInt .i64).is (i : Int))]) (fun (i : Nat) => [OB.box b2 31 kC (sealN xs bs i), OB.box b1 31 kC 0]) (fun (i : Nat) => bs.length - i) 0 ⟨Nat.zero_le _, sealTo_0 bs⟩ (Imp.cons rfl (Imp.cons rfl (Imp.cons rfl (Imp.cons rfl (Imp.cons rfl (Imp.consLe rfl (is_eq (y := (0 : Int)) (by first | omega | rfl)) Imp.nil)))))) (OImp.os (OS.keepLe (OB.box_eq (by first | omega | rfl)) (OS.keep OS.nil))) ?_
      intro i ⟨hi, ht⟩
      have hSm := sealN_Sm (bs := bs) (i := i) h_t12 (by omega)
      refine CW.seq ?_
      refine CW.seq ?_
      refine CW.region ?_
      refine WP.s .n (O.mv rfl) ?_
      refine WP.s .n (O.mv rfl) ?_
      refine WP.s .n (O.lenS rfl Try.underlying27) ?_
      refine WP.s .n (O.lt rfl rfl) ?_
      refine WP.nil ?_
      refine QE.next ?_
      refine CW.condD rfl (fun h_t25 => ?_) (fun h_t25 => ?_)
      · refine CW.skip ?_
        refine QE.next ?_
        refine CW.seq ?_
        refine CW.block ?_
        refine CW.seq ?_
        refine CW.region ?_
        refine WP.s .n (O.mv rfl) ?_
        refine WP.s .n (O.mv rfl) ?_
        refine WP.s .n (O.ix i rfl rfl Try.underlying28 ty3 rfl (v := (bs.getD i 0)) (gd 0 (by omega))) ?_
        refine WP.s .n (OpOk.le (O.ldP rfl ty3) (i64_le _)) ?_
        refine WP.nil ?_
        refine QE.next ?_
        refine CW.block ?_
        refine CW.seq ?_
        refine CW.region ?_
        refine WP.s .n (O.eq rfl rfl) ?_
        refine WP.s .n (O.asg rfl) ?_
        refine WP.nil ?_
        refine QE.next ?_
        refine CW.condD rfl (fun h_t33 => ?_) (fun h_t33 => ?_)
        · refine CW.skip ?_
          refine QE.blkN ?_
          refine QE.blkN ?_
          refine QE.next ?_
          refine CW.region ?_
          refine WP.s .n (O.mv rfl) ?_
          refine WP.s .n (O.add rfl rfl (c := ((i : Int) + 1)) (w64 (by omega))) ?_
          refine WP.s .n (O.asg rfl) ?_
          refine WP.nil ?_
          refine ST.obtold 0 rfl (OB.box_eq (y := (sealN xs bs (i + 1))) (sealN_0 h_t33)) ?_
          exact QE.round (i + 1) (by omega) ⟨by omega, sealTo_s (by omega) ht (.inl h_t33)⟩ (Imp.cons rfl (Imp.cons rfl (Imp.cons rfl (Imp.cons rfl (Imp.cons rfl (Imp.consLe rfl (is_eq (y := (((i + 1) : Nat) : Int)) (by first | omega | rfl)) Imp.nil)))))) (OImp.refl _)
        · refine CW.seq ?_
          refine CW.region ?_
          refine WP.s .n (O.eq rfl rfl) ?_
          refine WP.s .n (O.asg rfl) ?_
          refine WP.nil ?_
          refine QE.next ?_
          refine CW.condD rfl (fun h_t35 => ?_) (fun h_t35 => ?_)
          · refine CW.draw (Γ := [.fr (kC.is (sealN xs bs i)), .fr ((kSl kZ).is xs), .fr ((kInt .i64).is (i : Int)), .fr (VP.pim kZ (xs.getD i 0)), .fr (kZ.is (xs.getD i 0)), .fr (kC.is ((sealN xs bs i) + (xs.getD i 0)))]) (lates := [false, false, false, false, false, false]) (by kernel_rfl) (Chk.of rfl (by kernel_rfl) rfl) (fun _ _ _ _ _ h => h) (fun q_ x_ h_ => ?_) (fun σ => ?_)
            · match q_, h_ with
              | 0, h_ => cases h_; exact Ob.f rfl .n fun N => (O.ld rfl (mem_app N (mem_at 0 rfl)) (Lens.id _) ty31 rfl)
              | 1, h_ => cases h_; exact Ob.f rfl .n fun N => (O.mv rfl)
              | 2, h_ => cases h_; exact Ob.f rfl .n fun N => (O.mv rfl)
              | 3, h_ => cases h_; exact Ob.f rfl .n fun N => (O.ix i rfl rfl Try.underlying27 ty31 rfl (v := (xs.getD i 0)) (gd 0 (by omega)))
              | 4, h_ => cases h_; exact Ob.f rfl .n fun N => (O.ldP rfl ty31)
              | 5, h_ => cases h_; exact Ob.f rfl .n fun N => (O.fn fn79 (evs.l rfl (kC_Z (by assumption)) (evs.c rfl evs.nil)) (c_ref02_Add (sealN xs bs i) (xs.getD i 0)))
              | n_ + 6, h_ => simp at h_
            refine WP.t .n (O.stW (l := kC) (u := (sealN xs bs i) + (xs.getD i 0)) 0 rfl rfl rfl ty31 rfl (VP.le_refl _)) ?_
            refine WP.nil ?_
            refine QE.blkN ?_
            refine QE.blkN ?_
            refine QE.next ?_
            refine CW.region ?_
            refine WP.s .n (O.mv rfl) ?_
            refine WP.s .n (O.add rfl rfl (c := ((i : Int) + 1)) (w64 (by omega))) ?_
            refine WP.s .n (O.asg rfl) ?_
            refine WP.nil ?_
            refine ST.obtold 0 rfl (OB.box_eq (y := (sealN xs bs (i + 1))) (sealN_1 h_t35)) ?_
            exact QE.round (i + 1) (by omega) ⟨by omega, sealTo_s (by omega) ht (.inr h_t35)⟩ (Imp.cons rfl (Imp.cons rfl (Imp.cons rfl (Imp.cons rfl (Imp.cons rfl (Imp.consLe rfl (is_eq (y := (((i + 1) : Nat) : Int)) (by first | omega | rfl)) Imp.nil)))))) (OImp.refl _)
          · refine CW.seq ?_
            refine CW.region ?_
            refine WP.s .n (O.bld lit31_C rfl evp.n (.nil _)) ?_
            refine WP.t .n (O.stW (l := kC) (u := 0) 1 rfl rfl rfl ty31 rfl (VP.le_refl _)) ?_
            refine WP.s .n (O.asg rfl) ?_
            refine WP.nil ?_
            refine QE.next ?_
            refine CW.ret ?_
            refine QE.blkR ?_
            refine QE.blkR ?_
            refine QE.thenR ?_
            refine QE.thenR ?_
            refine QE.blkR ?_
            refine QE.thenR ?_
            refine ST.obtold 1 rfl (OB.box_eq (y := ((sealV xs bs).1)) (by rw [sealV_e3 h_t12 (by omega) (by omega) h_t33 h_t35])) ?_
            refine ST.told 5 rfl (is_eq (y := ((sealV xs bs).2)) (by rw [sealV_e3 h_t12 (by omega) (by omega) h_t33 h_t35])) ?_
            exact QE.done (.inl rfl) rfl (ResOk.c rfl (mem_at 1 rfl) ty31 (ResOk.t rfl ResOk.nil)) (OImp.sub (List.nil_sublist _)) ⟨rfl, rfl⟩
      · refine CW.exit ?_
        refine QE.thenE ?_
        refine QE.thenE ?_
        refine QE.blkH ?_
        refine QE.next ?_
        refine CW.seq ?_
        refine CW.region ?_
        refine WP.s .n (O.ld rfl (mem_at 0 rfl) (Lens.id _) ty31 rfl) ?_
        refine WP.t .n (O.stW (l := kC) (u := sealN xs bs i) 1 rfl rfl rfl ty31 rfl (VP.le_refl _)) ?_
        refine WP.s .n (O.asg rfl) ?_
        refine WP.nil ?_
        refine QE.next ?_
        refine CW.ret ?_
        refine ST.obtold 1 rfl (OB.box_eq (y := ((sealV xs bs).1)) (by rw [sealV_ok h_t12 (by omega) (i := i) (by omega) ht])) ?_
        refine ST.told 5 rfl (is_eq (y := ((sealV xs bs).2)) (by rw [sealV_ok h_t12 (by omega) (i := i) (by omega) ht])) ?_
        exact QE.done (.inl rfl) rfl (ResOk.c rfl (mem_at 1 rfl) ty31 (ResOk.t rfl ResOk.nil)) (OImp.sub (List.nil_sublist _)) ⟨rfl, rfl⟩

set_option maxRecDepth 20000 in
set_option maxHeartbeats 1000000 in
theorem c_law24_KnapSeals (xs bs : List Int) : Fn Try.prog 4 [(kSl kZ).is xs, (kSl kI64).is bs] (kBool.is true) := by
  refine Con.enter Try.func4 rfl rfl fun m w => ?_
  refine CW.seq ?_
  refine CW.region ?_
  refine WP.s .n (O.asg rfl) ?_
  refine WP.nil ?_
  refine QE.next ?_
  refine CW.seq ?_
  refine CW.region ?_
  refine WP.s .n (O.mv rfl) ?_
  refine WP.s .n (O.fn fn16 (evs.c rfl evs.nil) (c_law24_owns xs)) ?_
  refine WP.s .n (O.mv rfl) ?_
  refine WP.s .n (O.fn fn15 (evs.c rfl (evs.c rfl evs.nil)) (c_knap_Seal xs bs)) ?_
  refine WP.s .n (O.mv rfl) ?_
  refine WP.s .n (O.ext rfl rfl) ?_
  refine WP.s .n (O.ext rfl rfl) ?_
  refine WP.al .n z31_C fun b1 => ?_
  refine WP.t .n (O.stW (l := kC) (u := (sealV xs bs).1) 0 rfl rfl rfl ty31 rfl (VP.le_refl _)) ?_
  refine WP.s .n (O.asg rfl) ?_
  refine WP.nil ?_
  refine QE.next ?_
  refine CW.seq ?_
  refine CW.region ?_
  refine WP.s .n (O.mv rfl) ?_
  refine WP.s .n (O.mv rfl) ?_
  refine WP.s .n (O.fn fn17 (evs.c rfl (evs.c rfl evs.nil)) (c_ref24_Seal xs bs)) ?_
  refine WP.s .n (O.mv rfl) ?_
  refine WP.s .n (O.ext rfl rfl) ?_
  refine WP.s .n (O.ext rfl rfl) ?_
  refine WP.al .n z31_C fun b2 => ?_
  refine WP.t .n (O.stW (l := kC) (u := (sealV xs bs).1) 0 rfl rfl rfl ty31 rfl (VP.le_refl _)) ?_
  refine WP.s .n (O.asg rfl) ?_
  refine WP.nil ?_
  refine QE.next ?_
  refine CW.seq ?_
  refine CW.region ?_
  refine WP.s .n (O.mv rfl) ?_
  refine WP.s .n (O.mv rfl) ?_
  refine WP.s .n (O.eq rfl rfl) ?_
  refine WP.s .n (O.mv rfl) ?_
  refine WP.splitD 25 rfl (fun h_t25 => ?_) (fun h => absurd rfl h)
  refine WP.s (.g rfl rfl) (O.ld rfl (mem_at 1 rfl) (Lens.id _) ty31 rfl) ?_
  refine WP.s (.g rfl rfl) (O.ld rfl (mem_at 0 rfl) (Lens.id _) ty31 rfl) ?_
  refine WP.s (.g rfl rfl) (O.fn fn18 (evs.l rfl (kC_I _) (evs.l rfl (kC_I _) evs.nil)) (c_law24_eq (canon ((sealV xs bs).1)) (canon ((sealV xs bs).1)))) ?_
  refine WP.s .n (O.pickT rfl rfl) ?_
  refine WP.s .n (O.asg rfl) ?_
  refine WP.nil ?_
  refine QE.next ?_
  refine CW.ret ?_
  exact QE.done (.inl rfl) rfl (ResOk.tl rfl (is_eq (y := true) (by simp)) ResOk.nil) (OImp.sub (List.nil_sublist _)) ⟨rfl, rfl⟩

end Fw
