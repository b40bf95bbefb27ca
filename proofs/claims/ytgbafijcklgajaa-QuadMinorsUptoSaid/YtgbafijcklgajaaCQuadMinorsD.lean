/- Frame, facts and contracts for QuadMinors. -/
import Derived.Test.YtgbafijcklgajaaCQuadMinorsC
/- Shape, order and first entries: what the functions answer. -/
set_option linter.unusedVariables false
set_option linter.unusedSimpArgs false
set_option exponentiation.threshold 400
namespace Fw
open Go Go.Proofs

set_option maxRecDepth 20000 in
set_option maxHeartbeats 1000000 in
theorem c_mat_Shape (b : List (List Int)) : Fn Try.prog 135 [(kSl (kSl kZ)).is b] (VP.tup [(kInt .i64).is (shN b), (kInt .i64).is (shM b), (kInt .i64).is (shE b)]) := by
  refine Con.enter Try.func135 rfl rfl fun m w => ?_
  refine ST.fact (i := 0) rfl sl_len fun hB => ?_
  refine CW.seq ?_
  refine CW.region ?_
  refine WP.s .n (O.asg rfl) ?_
  refine WP.s .n (O.asg rfl) ?_
  refine WP.s .n (O.asg rfl) ?_
  refine WP.nil ?_
  refine QE.next ?_
  refine CW.seq ?_
  refine CW.seq ?_
  refine CW.region ?_
  refine WP.s .n (O.mv rfl) ?_
  refine WP.s .n (O.lenS rfl Try.underlying67) ?_
  refine WP.s .n (O.eq rfl rfl) ?_
  refine WP.nil ?_
  refine QE.next ?_
  refine CW.condD rfl (fun h_t9 => ?_) (fun h_t9 => ?_)
  · refine CW.seq ?_
    refine CW.region ?_
    refine WP.s .n (O.asg rfl) ?_
    refine WP.s .n (O.asg rfl) ?_
    refine WP.s .n (O.asg rfl) ?_
    refine WP.nil ?_
    refine QE.next ?_
    refine CW.ret ?_
    refine QE.thenR ?_
    have hx := sh_nil (b := b) (by omega)
    refine ST.told 2 rfl (is_eq (y := (shN b)) (by rw [hx.1])) ?_
    refine ST.told 3 rfl (is_eq (y := (shM b)) (by rw [hx.2.1])) ?_
    refine ST.told 4 rfl (is_eq (y := (shE b)) (by rw [hx.2.2])) ?_
    exact QE.done (.inl rfl) rfl (ResOk.t rfl (ResOk.t rfl (ResOk.t rfl ResOk.nil))) (OImp.sub (List.nil_sublist _)) ⟨rfl, rfl⟩
  · refine CW.skip ?_
    refine QE.next ?_
    refine CW.seq ?_
    refine CW.seq ?_
    refine CW.region ?_
    refine WP.s .n (O.mv rfl) ?_
    refine WP.s .n (O.lenS rfl Try.underlying67) ?_
    refine WP.s .n (O.mv rfl) ?_
    refine WP.nil ?_
    refine QE.next ?_
    refine CW.block ?_
    refine CW.loop (fun (i : Nat) => i ≤ b.length ∧ ∀ j, j < i → (b.getD j []).length = (b.getD 0 []).length) (fun (i : Nat) => [(0, (kSl (kSl kZ)).is b), (10, (kSl (kSl kZ)).is b), (11, (kInt .i64).is (b.length : Int)), (12, (kInt .i64).is (i : Int))]) (fun (i : Nat) => []) (fun (i : Nat) => b.length - i) 0 ⟨Nat.zero_le _, fun j hj => absurd hj (by omega)⟩ (Imp.cons rfl (Imp.cons rfl (Imp.cons rfl (Imp.consLe rfl (is_eq (y := (0 : Int)) (by first | rfl | omega | assumption)) Imp.nil)))) (OImp.refl _) ?_
    intro i ⟨hi, hl⟩
    refine CW.seq ?_
    refine CW.region ?_
    refine WP.s .n (O.lt rfl rfl) ?_
    refine WP.nil ?_
    refine QE.next ?_
    refine CW.seq ?_
    refine CW.condD rfl (fun h_t13 => ?_) (fun h_t13 => ?_)
    · refine CW.skip ?_
      refine QE.next ?_
      refine CW.seq ?_
      refine CW.block ?_
      refine CW.seq ?_
      refine CW.region ?_
      refine WP.s .n (O.ix i rfl rfl Try.underlying67 ty27 rfl (v := (b.getD i [])) (gd [] (by omega))) ?_
      refine WP.s .n (O.ldP rfl ty27) ?_
      refine WP.s .n (O.asg rfl) ?_
      refine WP.nil ?_
      refine QE.next ?_
      refine CW.seq ?_
      refine CW.region ?_
      refine WP.s .n (O.mv rfl) ?_
      refine WP.s .n (O.lenS rfl Try.underlying27) ?_
      refine WP.s .n (O.mv rfl) ?_
      refine WP.s .n (O.ix 0 rfl rfl Try.underlying67 ty27 rfl (v := (b.getD 0 [])) (gd [] (by omega))) ?_
      refine WP.s .n (O.ldP rfl ty27) ?_
      refine WP.s .n (O.lenS rfl Try.underlying27) ?_
      refine WP.s .n (O.ne rfl rfl) ?_
      refine WP.nil ?_
      refine QE.next ?_
      refine CW.condD rfl (fun h_t22 => ?_) (fun h_t22 => ?_)
      · refine CW.seq ?_
        refine CW.region ?_
        refine WP.s .n (O.asg rfl) ?_
        refine WP.s .n (O.asg rfl) ?_
        refine WP.s .n (O.asg rfl) ?_
        refine WP.nil ?_
        refine QE.next ?_
        refine CW.ret ?_
        refine QE.blkR ?_
        refine QE.thenR ?_
        refine QE.thenR ?_
        refine QE.blkR ?_
        refine QE.thenR ?_
        have hx := sh_no (b := b) (i := i) (by omega) (by omega)
        refine ST.told 2 rfl (is_eq (y := (shN b)) (by rw [hx.1])) ?_
        refine ST.told 3 rfl (is_eq (y := (shM b)) (by rw [hx.2.1])) ?_
        refine ST.told 4 rfl (is_eq (y := (shE b)) (by rw [hx.2.2])) ?_
        exact QE.done (.inl rfl) rfl (ResOk.t rfl (ResOk.t rfl (ResOk.t rfl ResOk.nil))) (OImp.sub (List.nil_sublist _)) ⟨rfl, rfl⟩
      · refine CW.skip ?_
        refine QE.blkN ?_
        refine QE.next ?_
        refine CW.region ?_
        refine WP.s .n (O.add rfl rfl (c := ((i : Int) + 1)) (w64 (by omega))) ?_
        refine WP.s .n (O.mv rfl) ?_
        refine WP.nil ?_
        exact QE.round (i + 1) (by omega) ⟨by omega, fun j hj => if e : j = i then by subst e; omega else hl j (by omega)⟩ (Imp.cons rfl (Imp.cons rfl (Imp.cons rfl (Imp.consLe rfl (is_eq (y := (((i + 1) : Nat) : Int)) (by first | rfl | omega | assumption)) Imp.nil)))) (OImp.refl _)
    · refine CW.exit ?_
      refine QE.thenE ?_
      refine QE.thenE ?_
      refine QE.blkH ?_
      refine QE.next ?_
      refine CW.seq ?_
      refine CW.join [(0, (kSl (kSl kZ)).is b), (2, (kInt .i64).is (b.length : Int)), (3, (kInt .i64).is ((b.getD 0 []).length : Int)), (4, (kInt .i64).is 0), (10, (kSl (kSl kZ)).is b), (11, (kInt .i64).is (b.length : Int)), (12, (kInt .i64).is (i : Int)), (13, kBool.is (decide ((i : Int) < (b.length : Int)))), (24, (kSl (kSl kZ)).is b), (25, (kInt .i64).is (b.length : Int)), (26, (kSl (kSl kZ)).is b), (27, VP.pim (kSl kZ) (b.getD 0 [])), (28, (kSl kZ).is (b.getD 0 [])), (29, (kInt .i64).is ((b.getD 0 []).length : Int))] [] ?_ ?_
      · refine CW.any (by kernel_rfl) ?_
        refine DA.first 0 rfl (by kernel_rfl) (by kernel_rfl) (by kernel_rfl) (fun _ _ _ _ _ h => h) .n (OV.mv rfl) ?_
        refine DA.first 2 rfl (by kernel_rfl) (by kernel_rfl) (by kernel_rfl) (fun _ _ _ _ _ h => h) .n (OV.mv rfl) ?_
        refine DA.go 1 [3] (by kernel_rfl) ⟨?_, ⟨?_, trivial⟩⟩
        · refine DO.w rfl ?_
          refine WP.s .n (O.lenS rfl Try.underlying67) ?_
          refine WP.nil ?_
          refine DO.nx ?_
          refine DA.go 3 [6] (by kernel_rfl) ⟨?_, ⟨?_, trivial⟩⟩
          · refine DO.w rfl ?_
            refine WP.s .n (O.ix 0 rfl rfl Try.underlying67 ty27 rfl (v := (b.getD 0 [])) (gd [] (by omega))) ?_
            refine WP.nil ?_
            refine DO.nx ?_
            refine DA.go 4 [6] (by kernel_rfl) ⟨?_, ⟨?_, trivial⟩⟩
            · refine DO.w rfl ?_
              refine WP.s .n (O.ldP rfl ty27) ?_
              refine WP.nil ?_
              refine DO.nx ?_
              refine DA.go 5 [6] (by kernel_rfl) ⟨?_, ⟨?_, trivial⟩⟩
              · refine DO.w rfl ?_
                refine WP.s .n (O.lenS rfl Try.underlying27) ?_
                refine WP.nil ?_
                refine DO.nx ?_
                refine DA.go 6 [] (by kernel_rfl) ⟨?_, trivial⟩
                refine DO.w rfl ?_
                refine WP.s .n (O.asg rfl) ?_
                refine WP.nil ?_
                refine DO.nx ?_
                refine DA.go 7 [] (by kernel_rfl) ⟨?_, trivial⟩
                refine DO.w rfl ?_
                refine WP.s .n (O.asg rfl) ?_
                refine WP.nil ?_
                refine DO.nx ?_
                refine DA.go 8 [] (by kernel_rfl) ⟨?_, trivial⟩
                refine DO.w rfl ?_
                refine WP.s .n (O.asg rfl) ?_
                refine WP.nil ?_
                refine DO.nx ?_
                refine DA.nil (by kernel_rfl) ?_
                exact QE.join (Imp.cons rfl (Imp.cons rfl (Imp.cons rfl (Imp.cons rfl (Imp.cons rfl (Imp.cons rfl (Imp.cons rfl (Imp.cons rfl (Imp.cons rfl (Imp.cons rfl (Imp.cons rfl (Imp.cons rfl (Imp.cons rfl (Imp.cons rfl Imp.nil)))))))))))))) (OImp.refl _)
              · refine DO.w rfl ?_
                refine WP.s .n (O.asg rfl) ?_
                refine WP.nil ?_
                refine DO.nx ?_
                refine DA.go 5 [] (by kernel_rfl) ⟨?_, trivial⟩
                refine DO.w rfl ?_
                refine WP.s .n (O.lenS rfl Try.underlying27) ?_
                refine WP.nil ?_
                refine DO.nx ?_
                refine DA.go 7 [] (by kernel_rfl) ⟨?_, trivial⟩
                refine DO.w rfl ?_
                refine WP.s .n (O.asg rfl) ?_
                refine WP.nil ?_
                refine DO.nx ?_
                refine DA.go 8 [] (by kernel_rfl) ⟨?_, trivial⟩
                refine DO.w rfl ?_
                refine WP.s .n (O.asg rfl) ?_
                refine WP.nil ?_
                refine DO.nx ?_
                refine DA.nil (by kernel_rfl) ?_
                exact QE.join (Imp.cons rfl (Imp.cons rfl (Imp.cons rfl (Imp.cons rfl (Imp.cons rfl (Imp.cons rfl (Imp.cons rfl (Imp.cons rfl (Imp.cons rfl (Imp.cons rfl (Imp.cons rfl (Imp.cons rfl (Imp.cons rfl (Imp.cons rfl Imp.nil)))))))))))))) (OImp.refl _)
            · refine DO.w rfl ?_
              refine WP.s .n (O.asg rfl) ?_
              refine WP.nil ?_
              refine DO.nx ?_
              refine DA.go 4 [] (by kernel_rfl) ⟨?_, trivial⟩
              refine DO.w rfl ?_
              refine WP.s .n (O.ldP rfl ty27) ?_
              refine WP.nil ?_
              refine DO.nx ?_
              refine DA.go 5 [] (by kernel_rfl) ⟨?_, trivial⟩
              refine DO.w rfl ?_
              refine WP.s .n (O.lenS rfl Try.underlying27) ?_
              refine WP.nil ?_
              refine DO.nx ?_
              refine DA.go 7 [] (by kernel_rfl) ⟨?_, trivial⟩
              refine DO.w rfl ?_
              refine WP.s .n (O.asg rfl) ?_
              refine WP.nil ?_
              refine DO.nx ?_
              refine DA.go 8 [] (by kernel_rfl) ⟨?_, trivial⟩
              refine DO.w rfl ?_
              refine WP.s .n (O.asg rfl) ?_
              refine WP.nil ?_
              refine DO.nx ?_
              refine DA.nil (by kernel_rfl) ?_
              exact QE.join (Imp.cons rfl (Imp.cons rfl (Imp.cons rfl (Imp.cons rfl (Imp.cons rfl (Imp.cons rfl (Imp.cons rfl (Imp.cons rfl (Imp.cons rfl (Imp.cons rfl (Imp.cons rfl (Imp.cons rfl (Imp.cons rfl (Imp.cons rfl Imp.nil)))))))))))))) (OImp.refl _)
          · refine DO.w rfl ?_
            refine WP.s .n (O.asg rfl) ?_
            refine WP.nil ?_
            refine DO.nx ?_
            refine DA.go 3 [] (by kernel_rfl) ⟨?_, trivial⟩
            refine DO.w rfl ?_
            refine WP.s .n (O.ix 0 rfl rfl Try.underlying67 ty27 rfl (v := (b.getD 0 [])) (gd [] (by omega))) ?_
            refine WP.nil ?_
            refine DO.nx ?_
            refine DA.go 4 [] (by kernel_rfl) ⟨?_, trivial⟩
            refine DO.w rfl ?_
            refine WP.s .n (O.ldP rfl ty27) ?_
            refine WP.nil ?_
            refine DO.nx ?_
            refine DA.go 5 [] (by kernel_rfl) ⟨?_, trivial⟩
            refine DO.w rfl ?_
            refine WP.s .n (O.lenS rfl Try.underlying27) ?_
            refine WP.nil ?_
            refine DO.nx ?_
            refine DA.go 7 [] (by kernel_rfl) ⟨?_, trivial⟩
            refine DO.w rfl ?_
            refine WP.s .n (O.asg rfl) ?_
            refine WP.nil ?_
            refine DO.nx ?_
            refine DA.go 8 [] (by kernel_rfl) ⟨?_, trivial⟩
            refine DO.w rfl ?_
            refine WP.s .n (O.asg rfl) ?_
            refine WP.nil ?_
            refine DO.nx ?_
            refine DA.nil (by kernel_rfl) ?_
            exact QE.join (Imp.cons rfl (Imp.cons rfl (Imp.cons rfl (Imp.cons rfl (Imp.cons rfl (Imp.cons rfl (Imp.cons rfl (Imp.cons rfl (Imp.cons rfl (Imp.cons rfl (Imp.cons rfl (Imp.cons rfl (Imp.cons rfl (Imp.cons rfl Imp.nil)))))))))))))) (OImp.refl _)
        · refine DO.w rfl ?_
          refine WP.s .n (O.ix 0 rfl rfl Try.underlying67 ty27 rfl (v := (b.getD 0 [])) (gd [] (by omega))) ?_
          refine WP.nil ?_
          refine DO.nx ?_
          refine DA.go 1 [4] (by kernel_rfl) ⟨?_, ⟨?_, trivial⟩⟩
          · refine DO.w rfl ?_
            refine WP.s .n (O.lenS rfl Try.underlying67) ?_
            refine WP.nil ?_
            refine DO.nx ?_
            refine DA.go 4 [6] (by kernel_rfl) ⟨?_, ⟨?_, trivial⟩⟩
            · refine DO.w rfl ?_
              refine WP.s .n (O.ldP rfl ty27) ?_
              refine WP.nil ?_
              refine DO.nx ?_
              refine DA.go 5 [6] (by kernel_rfl) ⟨?_, ⟨?_, trivial⟩⟩
              · refine DO.w rfl ?_
                refine WP.s .n (O.lenS rfl Try.underlying27) ?_
                refine WP.nil ?_
                refine DO.nx ?_
                refine DA.go 6 [] (by kernel_rfl) ⟨?_, trivial⟩
                refine DO.w rfl ?_
                refine WP.s .n (O.asg rfl) ?_
                refine WP.nil ?_
                refine DO.nx ?_
                refine DA.go 7 [] (by kernel_rfl) ⟨?_, trivial⟩
                refine DO.w rfl ?_
                refine WP.s .n (O.asg rfl) ?_
                refine WP.nil ?_
                refine DO.nx ?_
                refine DA.go 8 [] (by kernel_rfl) ⟨?_, trivial⟩
                refine DO.w rfl ?_
                refine WP.s .n (O.asg rfl) ?_
                refine WP.nil ?_
                refine DO.nx ?_
                refine DA.nil (by kernel_rfl) ?_
                exact QE.join (Imp.cons rfl (Imp.cons rfl (Imp.cons rfl (Imp.cons rfl (Imp.cons rfl (Imp.cons rfl (Imp.cons rfl (Imp.cons rfl (Imp.cons rfl (Imp.cons rfl (Imp.cons rfl (Imp.cons rfl (Imp.cons rfl (Imp.cons rfl Imp.nil)))))))))))))) (OImp.refl _)
              · refine DO.w rfl ?_
                refine WP.s .n (O.asg rfl) ?_
                refine WP.nil ?_
                refine DO.nx ?_
                refine DA.go 5 [] (by kernel_rfl) ⟨?_, trivial⟩
                refine DO.w rfl ?_
                refine WP.s .n (O.lenS rfl Try.underlying27) ?_
                refine WP.nil ?_
                refine DO.nx ?_
                refine DA.go 7 [] (by kernel_rfl) ⟨?_, trivial⟩
                refine DO.w rfl ?_
                refine WP.s .n (O.asg rfl) ?_
                refine WP.nil ?_
                refine DO.nx ?_
                refine DA.go 8 [] (by kernel_rfl) ⟨?_, trivial⟩
                refine DO.w rfl ?_
                refine WP.s .n (O.asg rfl) ?_
                refine WP.nil ?_
                refine DO.nx ?_
                refine DA.nil (by kernel_rfl) ?_
                exact QE.join (Imp.cons rfl (Imp.cons rfl (Imp.cons rfl (Imp.cons rfl (Imp.cons rfl (Imp.cons rfl (Imp.cons rfl (Imp.cons rfl (Imp.cons rfl (Imp.cons rfl (Imp.cons rfl (Imp.cons rfl (Imp.cons rfl (Imp.cons rfl Imp.nil)))))))))))))) (OImp.refl _)
            · refine DO.w rfl ?_
              refine WP.s .n (O.asg rfl) ?_
              refine WP.nil ?_
              refine DO.nx ?_
              refine DA.go 4 [] (by kernel_rfl) ⟨?_, trivial⟩
              refine DO.w rfl ?_
              refine WP.s .n (O.ldP rfl ty27) ?_
              refine WP.nil ?_
              refine DO.nx ?_
              refine DA.go 5 [] (by kernel_rfl) ⟨?_, trivial⟩
              refine DO.w rfl ?_
              refine WP.s .n (O.lenS rfl Try.underlying27) ?_
              refine WP.nil ?_
              refine DO.nx ?_
              refine DA.go 7 [] (by kernel_rfl) ⟨?_, trivial⟩
              refine DO.w rfl ?_
              refine WP.s .n (O.asg rfl) ?_
              refine WP.nil ?_
              refine DO.nx ?_
              refine DA.go 8 [] (by kernel_rfl) ⟨?_, trivial⟩
              refine DO.w rfl ?_
              refine WP.s .n (O.asg rfl) ?_
              refine WP.nil ?_
              refine DO.nx ?_
              refine DA.nil (by kernel_rfl) ?_
              exact QE.join (Imp.cons rfl (Imp.cons rfl (Imp.cons rfl (Imp.cons rfl (Imp.cons rfl (Imp.cons rfl (Imp.cons rfl (Imp.cons rfl (Imp.cons rfl (Imp.cons rfl (Imp.cons rfl (Imp.cons rfl (Imp.cons rfl (Imp.cons rfl Imp.nil)))))))))))))) (OImp.refl _)
          · refine DO.w rfl ?_
            refine WP.s .n (O.ldP rfl ty27) ?_
            refine WP.nil ?_
            refine DO.nx ?_
            refine DA.go 1 [5] (by kernel_rfl) ⟨?_, ⟨?_, trivial⟩⟩
            · refine DO.w rfl ?_
              refine WP.s .n (O.lenS rfl Try.underlying67) ?_
              refine WP.nil ?_
              refine DO.nx ?_
              refine DA.go 5 [6] (by kernel_rfl) ⟨?_, ⟨?_, trivial⟩⟩
              · refine DO.w rfl ?_
                refine WP.s .n (O.lenS rfl Try.underlying27) ?_
                refine WP.nil ?_
                refine DO.nx ?_
                refine DA.go 6 [] (by kernel_rfl) ⟨?_, trivial⟩
                refine DO.w rfl ?_
                refine WP.s .n (O.asg rfl) ?_
                refine WP.nil ?_
                refine DO.nx ?_
                refine DA.go 7 [] (by kernel_rfl) ⟨?_, trivial⟩
                refine DO.w rfl ?_
                refine WP.s .n (O.asg rfl) ?_
                refine WP.nil ?_
                refine DO.nx ?_
                refine DA.go 8 [] (by kernel_rfl) ⟨?_, trivial⟩
                refine DO.w rfl ?_
                refine WP.s .n (O.asg rfl) ?_
                refine WP.nil ?_
                refine DO.nx ?_
                refine DA.nil (by kernel_rfl) ?_
                exact QE.join (Imp.cons rfl (Imp.cons rfl (Imp.cons rfl (Imp.cons rfl (Imp.cons rfl (Imp.cons rfl (Imp.cons rfl (Imp.cons rfl (Imp.cons rfl (Imp.cons rfl (Imp.cons rfl (Imp.cons rfl (Imp.cons rfl (Imp.cons rfl Imp.nil)))))))))))))) (OImp.refl _)
              · refine DO.w rfl ?_
                refine WP.s .n (O.asg rfl) ?_
                refine WP.nil ?_
                refine DO.nx ?_
                refine DA.go 5 [] (by kernel_rfl) ⟨?_, trivial⟩
                refine DO.w rfl ?_
                refine WP.s .n (O.lenS rfl Try.underlying27) ?_
                refine WP.nil ?_
                refine DO.nx ?_
                refine DA.go 7 [] (by kernel_rfl) ⟨?_, trivial⟩
                refine DO.w rfl ?_
                refine WP.s .n (O.asg rfl) ?_
                refine WP.nil ?_
                refine DO.nx ?_
                refine DA.go 8 [] (by kernel_rfl) ⟨?_, trivial⟩
                refine DO.w rfl ?_
                refine WP.s .n (O.asg rfl) ?_
                refine WP.nil ?_
                refine DO.nx ?_
                refine DA.nil (by kernel_rfl) ?_
                exact QE.join (Imp.cons rfl (Imp.cons rfl (Imp.cons rfl (Imp.cons rfl (Imp.cons rfl (Imp.cons rfl (Imp.cons rfl (Imp.cons rfl (Imp.cons rfl (Imp.cons rfl (Imp.cons rfl (Imp.cons rfl (Imp.cons rfl (Imp.cons rfl Imp.nil)))))))))))))) (OImp.refl _)
            · refine DO.w rfl ?_
              refine WP.s .n (O.lenS rfl Try.underlying27) ?_
              refine WP.nil ?_
              refine DO.nx ?_
              refine DA.go 1 [] (by kernel_rfl) ⟨?_, trivial⟩
              refine DO.w rfl ?_
              refine WP.s .n (O.lenS rfl Try.underlying67) ?_
              refine WP.nil ?_
              refine DO.nx ?_
              refine DA.go 6 [] (by kernel_rfl) ⟨?_, trivial⟩
              refine DO.w rfl ?_
              refine WP.s .n (O.asg rfl) ?_
              refine WP.nil ?_
              refine DO.nx ?_
              refine DA.go 7 [] (by kernel_rfl) ⟨?_, trivial⟩
              refine DO.w rfl ?_
              refine WP.s .n (O.asg rfl) ?_
              refine WP.nil ?_
              refine DO.nx ?_
              refine DA.go 8 [] (by kernel_rfl) ⟨?_, trivial⟩
              refine DO.w rfl ?_
              refine WP.s .n (O.asg rfl) ?_
              refine WP.nil ?_
              refine DO.nx ?_
              refine DA.nil (by kernel_rfl) ?_
              exact QE.join (Imp.cons rfl (Imp.cons rfl (Imp.cons rfl (Imp.cons rfl (Imp.cons rfl (Imp.cons rfl (Imp.cons rfl (Imp.cons rfl (Imp.cons rfl (Imp.cons rfl (Imp.cons rfl (Imp.cons rfl (Imp.cons rfl (Imp.cons rfl Imp.nil)))))))))))))) (OImp.refl _)
      refine QE.next ?_
      refine CW.ret ?_
      have hx := sh_yes (b := b) (fun j hj => hl j (by omega))
      refine ST.told 2 rfl (is_eq (y := (shN b)) (by rw [hx.1])) ?_
      refine ST.told 3 rfl (is_eq (y := (shM b)) (by rw [hx.2.1])) ?_
      refine ST.told 4 rfl (is_eq (y := (shE b)) (by rw [hx.2.2])) ?_
      exact QE.done (.inl rfl) rfl (ResOk.t rfl (ResOk.t rfl (ResOk.t rfl ResOk.nil))) (OImp.sub (List.nil_sublist _)) ⟨rfl, rfl⟩

set_option maxRecDepth 20000 in
set_option maxHeartbeats 1000000 in
theorem c_mat_Bits (b : List (List Int)) : Fn Try.prog 174 [(kSl (kSl kZ)).is b] ((kInt .i64).is (mbits b)) := by
  refine Con.enter Try.func174 rfl rfl fun m w => ?_
  refine ST.fact (i := 0) rfl sl_len fun hB => ?_
  refine CW.seq ?_
  refine CW.region ?_
  refine WP.s .n (O.asg rfl) ?_
  refine WP.nil ?_
  refine QE.next ?_
  refine CW.seq ?_
  refine CW.region ?_
  refine WP.s .n (O.asg rfl) ?_
  refine WP.nil ?_
  refine QE.next ?_
  refine CW.seq ?_
  refine CW.seq ?_
  refine CW.region ?_
  refine WP.s .n (O.mv rfl) ?_
  refine WP.s .n (O.lenS rfl Try.underlying67) ?_
  refine WP.s .n (O.mv rfl) ?_
  refine WP.nil ?_
  refine QE.next ?_
  refine CW.block ?_
  refine CW.loop (fun (i : Nat) => i ≤ b.length) (fun (i : Nat) => [(0, (kSl (kSl kZ)).is b), (3, (kInt .i64).is ((b.take i).foldl vbN 0)), (8, (kSl (kSl kZ)).is b), (9, (kInt .i64).is (b.length : Int)), (10, (kInt .i64).is (i : Int))]) (fun (i : Nat) => []) (fun (i : Nat) => b.length - i) 0 (by omega) (Imp.cons rfl (Imp.consLe rfl (is_eq (y := ((b.take 0).foldl vbN 0)) (by first | rfl | omega)) (Imp.cons rfl (Imp.cons rfl (Imp.consLe rfl (is_eq (y := (0 : Int)) (by first | rfl | omega)) Imp.nil))))) (OImp.refl _) ?_
  intro i hi
  refine CW.seq ?_
  refine CW.region ?_
  refine WP.s .n (O.lt rfl rfl) ?_
  refine WP.nil ?_
  refine QE.next ?_
  refine CW.seq ?_
  refine CW.condD rfl (fun h_t11 => ?_) (fun h_t11 => ?_)
  · refine CW.skip ?_
    refine QE.next ?_
    refine CW.seq ?_
    refine CW.block ?_
    refine CW.seq ?_
    refine CW.region ?_
    refine WP.s .n (O.ix i rfl rfl Try.underlying67 ty27 rfl (v := (b.getD i [])) (gd [] (by omega))) ?_
    refine WP.s .n (O.ldP rfl ty27) ?_
    refine WP.s .n (O.asg rfl) ?_
    refine WP.nil ?_
    refine QE.next ?_
    refine CW.seq ?_
    refine CW.region ?_
    refine ST.fact (i := 5) rfl sl_len fun hlk => ?_
    refine WP.s .n (O.mv rfl) ?_
    refine WP.s .n (O.lenS rfl Try.underlying27) ?_
    refine WP.s .n (O.mv rfl) ?_
    refine WP.nil ?_
    refine QE.next ?_
    refine CW.block ?_
    refine CW.loop (fun (k : Nat) => k ≤ (b.getD i []).length) (fun (k : Nat) => [(0, (kSl (kSl kZ)).is b), (3, (kInt .i64).is (vbN ((b.take i).foldl vbN 0) ((b.getD i []).take k))), (8, (kSl (kSl kZ)).is b), (9, (kInt .i64).is (b.length : Int)), (10, (kInt .i64).is (i : Int)), (14, (kSl kZ).is (b.getD i [])), (15, (kInt .i64).is ((b.getD i []).length : Int)), (16, (kInt .i64).is (k : Int))]) (fun (k : Nat) => []) (fun (k : Nat) => (b.getD i []).length - k) 0 (by omega) (Imp.cons rfl (Imp.consLe rfl (is_eq (y := (vbN ((b.take i).foldl vbN 0) ((b.getD i []).take 0))) (by first | rfl | omega)) (Imp.cons rfl (Imp.cons rfl (Imp.cons rfl (Imp.cons rfl (Imp.cons rfl (Imp.consLe rfl (is_eq (y := (0 : Int)) (by first | rfl | omega)) Imp.nil)))))))) (OImp.refl _) ?_
    intro k hk
    refine CW.seq ?_
    refine CW.region ?_
    refine WP.s .n (O.lt rfl rfl) ?_
    refine WP.nil ?_
    refine QE.next ?_
    refine CW.seq ?_
    refine CW.condD rfl (fun h_t17 => ?_) (fun h_t17 => ?_)
    · refine CW.skip ?_
      refine QE.next ?_
      refine CW.seq ?_
      refine CW.block ?_
      refine CW.seq ?_
      refine CW.region ?_
      refine WP.s .n (O.ix k rfl rfl Try.underlying27 ty31 rfl (v := ((b.getD i []).getD k 0)) (gd 0 (by omega))) ?_
      refine WP.s .n (O.ldP rfl ty31) ?_
      refine WP.al .n z31_C fun b1 => ?_
      refine WP.t .n (O.stW (l := kZ) (u := ((b.getD i []).getD k 0)) 0 rfl rfl rfl ty31 rfl (VP.le_refl _)) ?_
      refine WP.nil ?_
      refine QE.next ?_
      refine CW.region ?_
      refine WP.s .n (O.mv rfl) ?_
      refine WP.s .n (O.ld rfl (mem_at 0 rfl) (Lens.id _) ty31 rfl) ?_
      refine WP.s .n (O.fn fn96 (evs.c rfl evs.nil) (c_zint_Bits ((b.getD i []).getD k 0))) ?_
      refine WP.s .n (O.mx rfl rfl) ?_
      refine WP.s .n (O.asg rfl) ?_
      refine WP.nil ?_
      refine QE.blkN ?_
      refine QE.next ?_
      refine CW.region ?_
      refine WP.s .n (O.add rfl rfl (c := ((k : Int) + 1)) (w64 (by omega))) ?_
      refine WP.s .n (O.mv rfl) ?_
      refine WP.nil ?_
      refine ST.told 3 rfl (is_eq (y := (vbN ((b.take i).foldl vbN 0) ((b.getD i []).take (k + 1)))) (vbN_s (by omega))) ?_
      exact QE.round (k + 1) (by omega) (by omega) (Imp.cons rfl (Imp.cons rfl (Imp.cons rfl (Imp.cons rfl (Imp.cons rfl (Imp.cons rfl (Imp.cons rfl (Imp.consLe rfl (is_eq (y := (((k + 1) : Nat) : Int)) (by first | rfl | omega)) Imp.nil)))))))) (OImp.sub (List.nil_sublist _))
    · refine CW.exit ?_
      refine QE.thenE ?_
      refine QE.thenE ?_
      refine QE.blkH ?_
      refine QE.blkN ?_
      refine QE.next ?_
      refine CW.region ?_
      refine WP.s .n (O.add rfl rfl (c := ((i : Int) + 1)) (w64 (by omega))) ?_
      refine WP.s .n (O.mv rfl) ?_
      refine WP.nil ?_
      refine ST.told 3 rfl (is_eq (y := ((b.take (i + 1)).foldl vbN 0)) (mb_done (by omega) (by omega))) ?_
      exact QE.round (i + 1) (by omega) (by omega) (Imp.cons rfl (Imp.cons rfl (Imp.cons rfl (Imp.cons rfl (Imp.consLe rfl (is_eq (y := (((i + 1) : Nat) : Int)) (by first | rfl | omega)) Imp.nil))))) (OImp.refl _)
  · refine CW.exit ?_
    refine QE.thenE ?_
    refine QE.thenE ?_
    refine QE.blkH ?_
    refine QE.next ?_
    refine CW.seq ?_
    refine CW.region ?_
    refine WP.s .n (O.mv rfl) ?_
    refine WP.s .n (O.asg rfl) ?_
    refine WP.nil ?_
    refine QE.next ?_
    refine CW.ret ?_
    refine ST.told 2 rfl (is_eq (y := (mbits b)) (by rw [List.take_of_length_le (by omega)]; rfl)) ?_
    exact QE.done (.inl rfl) rfl (ResOk.t rfl ResOk.nil) (OImp.sub (List.nil_sublist _)) ⟨rfl, rfl⟩

end Fw


/- Plain facts: the whole data of Gram-Schmidt and the fractions: one is the other's numerator; sizes. -/
set_option linter.unusedVariables false
set_option linter.unusedSimpArgs false
set_option exponentiation.threshold 400
namespace Fw
open Go

theorem gsE_frac {G : Nat → Nat → Int} (hs : SymG G) {k : Nat} (hp : PosU G k) {i j : Nat} (hi : k ≤ i) (hj : k ≤ j) : gsE (qG G) k i j = (uE G k i j : Rat) / (uD G k : Rat) := by
  have h := ugs hs k hp
  have h1 := h.e i j hi hj
  have h2 : uD G k ≠ 0 := by have := hp.uD (Nat.le_refl k); omega
  have h3 := rat_ne h2
  rw [h1, h.d]; rw [h.d] at h3; grind
theorem gsE_pos {G : Nat → Nat → Int} (hs : SymG G) {k : Nat} (hp : PosU G k) : 0 < gsE (qG G) k k k ↔ 0 < uE G k k k := by
  have h2 : 0 < uD G k := hp.uD (Nat.le_refl k)
  have h1 := gsE_frac hs hp (Nat.le_refl k) (Nat.le_refl k)
  have hd : (0 : Rat) < (uD G k : Rat) := by exact_mod_cast h2
  have hne := rat_ne (show uD G k ≠ 0 by omega)
  have e : (uE G k k k : Rat) = gsE (qG G) k k k * (uD G k : Rat) := by rw [h1]; grind
  constructor
  · intro h
    have : (0 : Rat) < (uE G k k k : Rat) := by rw [e]; exact Rat.mul_pos h hd
    exact_mod_cast this
  · intro h
    have h4 : (0 : Rat) < (uE G k k k : Rat) := by exact_mod_cast h
    rw [h1, Rat.div_def]; exact Rat.mul_pos h4 (Rat.inv_pos.2 hd)
/-- bits behind k steps -/
def szU (n : Nat) : Nat → Nat
  | 0 => n
  | k + 1 => 2 * szU n k + 1
theorem uE_Sz {G : Nat → Nat → Int} (hs : SymG G) {n : Nat} (hn : ∀ i j, Sz n (G i j)) {K : Nat} (hp : PosU G K) : ∀ k, k ≤ K → ∀ i j, k ≤ i → k ≤ j → Sz (szU n k) (uE G k i j)
  | 0, _, i, j, _, _ => hn i j
  | k + 1, hk, i, j, hi, hj => by
    have ih := uE_Sz hs hn hp k (by omega)
    have hx := (ugs hs K hp).x k (by omega) i j (by omega) (by omega) (by omega) (by omega)
    have hd : 0 < uD G k := hp.uD (by omega)
    have h1 := Sz.add1 (((ih k k (Nat.le_refl _) (Nat.le_refl _)).mul (ih i j (by omega) (by omega)))) ((((ih i k (by omega) (Nat.le_refl _)).mul (ih j k (by omega) (Nat.le_refl _)))).neg)
    have e : uE G k k k * uE G k i j + -(uE G k i k * uE G k j k) = uE G (k + 1) i j * uD G k := by
      rw [hx]; show _ = uE G k k k * uE G k i j - _; omega
    rw [e] at h1
    have h2 := h1.le (y := uE G (k + 1) i j) (by
      rw [Int.natAbs_mul]; exact Nat.le_mul_of_pos_right _ (by omega))
    exact h2.up (by simp only [szU]; omega)

end Fw


/- Plain facts: the sum of rows, each so many times. -/
set_option linter.unusedVariables false
set_option linter.unusedSimpArgs false
set_option exponentiation.threshold 400
namespace Fw
open Go

/-- column k of the first i rows' sum -/
def combN (x : List Int) (b : List (List Int)) (k : Nat) : Nat → Int
  | 0 => 0
  | i + 1 => combN x b k i + x.getD i 0 * (b.getD i []).getD k 0
theorem combN_Sz {n m x b} (hx : SzL n x) (hb : ∀ i, SzL m (b.getD i [])) (k) : ∀ i, Sz (n + m + i) (combN x b k i)
  | 0 => Sz.zero _
  | i + 1 => Sz.add1 (combN_Sz hx hb k i) (((hx i).mul (hb i k)).up (show n + m ≤ n + m + i by omega))
/-- row i is added as far as column k0 -/
def combP (x : List Int) (b : List (List Int)) (i k0 : Nat) : List Int := (List.range (b.getD 0 []).length).map (fun k => combN x b k (if k < k0 then i + 1 else i))
def combV (x : List Int) (b : List (List Int)) : List Int := (List.range (b.getD 0 []).length).map (fun k => combN x b k b.length)
theorem combP_len (x b i k0) : (combP x b i k0).length = (b.getD 0 []).length := by simp [combP]
theorem combP_get {x b i k0} (h : k0 < (b.getD 0 []).length) : (combP x b i k0).getD k0 0 = combN x b k0 i := by
  rw [gde _ 0 (by rw [combP_len]; exact h)]; simp [combP]
theorem combP_set {x b i k0} (h : k0 < (b.getD 0 []).length) : (combP x b i k0).set k0 (combN x b k0 i + x.getD i 0 * (b.getD i []).getD k0 0) = combP x b i (k0 + 1) := by
  apply List.ext_getElem
  · simp [combP]
  · intro k h1 h2
    simp only [List.getElem_set, combP, List.getElem_map, List.getElem_range]
    by_cases e : k0 = k
    · subst e; rw [if_pos rfl, if_pos (by omega)]; rfl
    · rw [if_neg e]
      by_cases e2 : k < k0
      · rw [if_pos e2, if_pos (by omega)]
      · rw [if_neg e2, if_neg (by omega)]
theorem combP_row {x b i k0} (h : (b.getD 0 []).length ≤ k0) : combP x b i k0 = combP x b (i + 1) 0 := by
  apply List.map_congr_left
  intro k hk
  have := List.mem_range.1 hk
  rw [if_pos (by omega), if_neg (by omega)]
theorem combP_zero (x b) : combP x b 0 0 = List.replicate (b.getD 0 []).length 0 := by
  apply List.ext_getElem
  · simp [combP]
  · intro k h1 h2; simp [combP, combN]
theorem combP_end (x) (b : List (List Int)) : combP x b b.length 0 = combV x b := by
  apply List.map_congr_left
  intro k hk; rw [if_neg (by omega)]

end Fw


/- Plain facts: combinations of rows, and Gram-Schmidt data as lists. -/
set_option linter.unusedVariables false
set_option linter.unusedSimpArgs false
set_option exponentiation.threshold 400
namespace Fw
open Go

theorem slsl_len {α : Type} {k : Kd α} {b : List (List α)} (m : Mem) (v : Value) (h : ((kSl (kSl k)).is b).p m v) : ∀ i, (b.getD i []).length ≤ 1099511627776 := by
  intro i
  obtain ⟨a, cap, rfl, h1, h2, h3⟩ := Kd.is_sl h
  by_cases hi : i < b.length
  · rcases h3 with rfl | ⟨g, o, c, cells, rfl, e1, e2, e3⟩
    · simp at hi
    · have := e3.get i hi
      obtain ⟨a', cap', _, h4, _⟩ := this
      rw [gde _ [] hi]; exact h4
  · have e : b.getD i [] = [] := by simp [List.getD, Nat.le_of_not_lt hi]
    rw [e]; simp

def RectL (b : List (List Int)) : Prop := ∀ i, i < b.length → (b.getD i []).length = (b.getD 0 []).length
def SzM (n : Nat) (b : List (List Int)) : Prop := ∀ i, SzL n (b.getD i [])
theorem combV_len (x b) : (combV x b).length = (b.getD 0 []).length := by simp [combV]
theorem combV_get {x b k} (h : k < (b.getD 0 []).length) : (combV x b).getD k 0 = combN x b k b.length := by
  rw [gde _ 0 (by rw [combV_len]; exact h)]; simp [combV]
theorem combP_at {x b i k} (h : k < (b.getD 0 []).length) : (combP x b i k)[k]? = some (combN x b k i) := by
  rw [gd (l := combP x b i k) (i := k) 0 (by rw [combP_len]; exact h), combP_get h]
theorem combV_nil (x) {b : List (List Int)} (h : b.length = 0) : combV x b = [] := by
  have := List.eq_nil_of_length_eq_zero h; subst this; rfl
def combOk (x : List Int) (b : List (List Int)) : Prop := rect b = true ∧ x.length = b.length
instance (x b) : Decidable (combOk x b) := by unfold combOk; infer_instance
def combA (x : List Int) (b : List (List Int)) : List Int := if combOk x b then combV x b else []
def combE (x : List Int) (b : List (List Int)) : Int := if combOk x b then 0 else 8
theorem comb_yes {x b} (h : combOk x b) : combV x b = combA x b ∧ combE x b = 0 := ⟨(if_pos h).symm, if_pos h⟩
theorem comb_no {x b} (h : ¬ combOk x b) : combA x b = [] ∧ combE x b = 8 := ⟨if_neg h, if_neg h⟩
theorem rectL {b} (h : rect b = true) : RectL b := rect_iff.1 h
theorem rect_of_shE {b} (h : ¬ shE b ≠ 0) : rect b = true := by
  unfold shE at h
  by_cases e : rect b = true
  · exact e
  · rw [if_neg e] at h; exact absurd (by decide) h
theorem not_rect_of_shE {b} (h : shE b ≠ 0) : ¬ rect b = true := by
  intro e; unfold shE at h; rw [if_pos e] at h; exact h rfl

/-! Gram-Schmidt data as the program keeps them. -/
def gOk (G : Nat → Nat → Int) (n : Nat) : Bool := (List.range n).all (fun i => decide (0 < uE G i i i))
def gDs (G : Nat → Nat → Int) (n : Nat) : List Int := (List.range (n + 1)).map (uD G)
def gRow (G : Nat → Nat → Int) (i m : Nat) : List Int := (List.range m).map (fun j => uE G j i j)
def gLs (G : Nat → Nat → Int) (n : Nat) : List (List Int) := (List.range n).map (fun i => gRow G i i)
theorem gOk_iff {G n} : gOk G n = true ↔ PosU G n := by
  unfold gOk PosU; simp
theorem gRow_len (G i m) : (gRow G i m).length = m := by simp [gRow]
theorem gRow_get {G i m j} (h : j < m) : (gRow G i m).getD j 0 = uE G j i j := by
  rw [gde _ 0 (by rw [gRow_len]; exact h)]; simp [gRow]
theorem gRow_app (G i m) : gRow G i m ++ [uE G m i m] = gRow G i (m + 1) := by
  simp [gRow, List.range_succ]
theorem gRow_take (G i m) : (gRow G i (m + 1)).take m = gRow G i m := by
  rw [← gRow_app, List.take_left' (gRow_len G i m)]
theorem gDs_len (G n) : (gDs G n).length = n + 1 := by simp [gDs]
theorem gDs_get {G n k} (h : k ≤ n) : (gDs G n).getD k 0 = uD G k := by
  rw [gde _ 0 (by rw [gDs_len]; omega)]; simp [gDs]
theorem gDs_app (G n) : gDs G n ++ [uE G n n n] = gDs G (n + 1) := by
  simp [gDs, List.range_succ]; rfl
theorem gLs_len (G n) : (gLs G n).length = n := by simp [gLs]
theorem gLs_get {G n k} (h : k < n) : (gLs G n).getD k [] = gRow G k k := by
  rw [gde _ [] (by rw [gLs_len]; omega)]; simp [gLs]
theorem gLs_app (G n) : gLs G n ++ [gRow G n n] = gLs G (n + 1) := by
  simp [gLs, List.range_succ]
theorem szU_eq (n) : ∀ k, szU n k + 1 = 2 ^ k * (n + 1)
  | 0 => by simp [szU]
  | k + 1 => by rw [szU, Nat.pow_succ, Nat.mul_comm (2 ^ k) 2, Nat.mul_assoc, ← szU_eq n k]; omega
theorem szU_le (n) {k : Nat} (h : k ≤ 12) : szU n k ≤ 4096 * (n + 1) := by
  have h1 := szU_eq n k
  have h2 : 2 ^ k ≤ 2 ^ 12 := Nat.pow_le_pow_right (by decide) h
  have h3 := Nat.mul_le_mul_right (n + 1) h2
  omega
theorem gDs_at {G n k} (h : k ≤ n) : (gDs G n)[k]? = some (uD G k) := by
  have := gDs_get (G := G) h; rw [gd (l := gDs G n) (i := k) 0 (by rw [gDs_len]; omega), this]
theorem gRow_at {G i m j} (h : j < m) : (gRow G i m)[j]? = some (uE G j i j) := by
  have := gRow_get (G := G) (i := i) h; rw [gd (l := gRow G i m) (i := j) 0 (by rw [gRow_len]; omega), this]
theorem gLs_at {G n i k} (hi : i < n) (h : k < i) : ((gLs G n).getD i [])[k]? = some (uE G k i k) := by
  rw [gLs_get hi]; exact gRow_at h
/-- what built answers -/
def gsoV (G : Nat → Nat → Int) (n : Nat) : List Int × List (List Int) := if gOk G n = true then (gDs G n, gLs G n) else ([], [])
theorem gso_yes {G n} (h : PosU G n) : gOk G n = true ∧ gsoV G n = (gDs G n, gLs G n) := ⟨gOk_iff.2 h, if_pos (gOk_iff.2 h)⟩
theorem gso_no {G n i} (hi : i < n) (h : (uE G i i i).sign ≤ 0) : gOk G n = false ∧ gsoV G n = ([], []) := by
  have e : ¬ gOk G n = true := fun e => by
    have h1 := gOk_iff.1 e i hi
    have := Int.sign_eq_one_of_pos h1
    omega
  exact ⟨by simpa using e, if_neg e⟩
theorem posU_succ {G i} (h : PosU G i) (hs : ¬ (uE G i i i).sign ≤ 0) : PosU G (i + 1) := by
  intro l hl
  by_cases e : l = i
  · subst e
    rcases Int.lt_trichotomy (uE G l l l) 0 with h1 | h1 | h1
    · rw [Int.sign_eq_neg_one_of_neg h1] at hs; omega
    · rw [h1] at hs; simp at hs
    · exact h1
  · exact h l (by omega)

theorem uD_Sz {G : Nat → Nat → Int} (hs : SymG G) {n : Nat} (hn : ∀ i j, Sz n (G i j)) {K : Nat} (hp : PosU G K) : ∀ k, k ≤ K → Sz (szU n k + 1) (uD G k)
  | 0, _ => by
    show (1 : Int).natAbs < 2 ^ (n + 1)
    have := Nat.one_le_two_pow (n := n)
    rw [Nat.pow_succ]; simp; omega
  | k + 1, hk => (uE_Sz hs hn hp k (by omega) k k (Nat.le_refl _) (Nat.le_refl _)).up (by simp only [szU]; omega)

end Fw


/- Combinations of rows: what the functions answer. -/
set_option linter.unusedVariables false
set_option linter.unusedSimpArgs false
set_option exponentiation.threshold 400
namespace Fw
open Go Go.Proofs

set_option maxRecDepth 20000 in
set_option maxHeartbeats 1000000 in
theorem c_mat_combine (n : Nat) (x : List Int) (b : List (List Int)) (hx : SzL n x) (hb : SzM n b) (hr : RectL b) (hl : b.length ≤ x.length) (hn : n + n + b.length ≤ 549755813000) : Fn Try.prog 141 [(kSl kZ).is x, (kSl (kSl kZ)).is b] ((kSl kC).is (combV x b)) := by
  refine Con.enter Try.func141 rfl rfl fun m w => ?_
  refine ST.fact (i := 0) rfl sl_len fun hA => ?_
  refine ST.fact (i := 1) rfl sl_len fun hB => ?_
  refine CW.seq ?_
  refine CW.region ?_
  refine WP.s .n (O.asg rfl) ?_
  refine WP.nil ?_
  refine QE.next ?_
  refine CW.seq ?_
  refine CW.seq ?_
  refine CW.region ?_
  refine WP.s .n (O.mv rfl) ?_
  refine WP.s .n (O.lenS rfl Try.underlying67) ?_
  refine WP.s .n (O.eq rfl rfl) ?_
  refine WP.nil ?_
  refine QE.next ?_
  refine CW.condD rfl (fun h_t12 => ?_) (fun h_t12 => ?_)
  · refine CW.seq ?_
    refine ST.told (q := (kSl kC).is (combV x b)) 4 rfl (VP.le_trans (nil_le _) (is_eq (combV_nil x (by omega)).symm)) ?_
    refine CW.region ?_
    refine WP.s .n (O.asg rfl) ?_
    refine WP.nil ?_
    refine QE.next ?_
    refine CW.ret ?_
    refine QE.thenR ?_
    refine ST.told (q := (kSl kC).is (combV x b)) 4 rfl (VP.le_trans (nil_le _) (is_eq (combV_nil x (by omega)).symm)) ?_
    exact QE.done (.inl rfl) rfl (ResOk.t rfl ResOk.nil) (OImp.sub (List.nil_sublist _)) ⟨rfl, rfl⟩
  · refine CW.skip ?_
    refine QE.next ?_
    refine CW.seq ?_
    refine CW.region ?_
    refine WP.s .n (O.mv rfl) ?_
    refine WP.s .n (O.ix 0 rfl rfl Try.underlying67 ty27 rfl (v := (b.getD 0 [])) (gd [] (by (first | omega | (simp only [combP_len]; have := hr i (by omega); omega))))) ?_
    refine WP.s .n (O.ldP rfl ty27) ?_
    refine ST.fact (i := 15) rfl sl_len fun hlr => ?_
    refine WP.s .n (O.lenS rfl Try.underlying27) ?_
    refine WP.mk ((b.getD 0 []).length) .n rfl rfl rfl (by (first | omega | (simp only [combP_len]; have := hr i (by omega); omega))) Try.underlying27 el31_C z31_C fun v1 => ?_
    refine WP.s .n (O.asg rfl) ?_
    refine WP.nil ?_
    refine QE.next ?_
    refine CW.seq ?_
    refine CW.seq ?_
    refine CW.region ?_
    refine WP.s .n (O.mv rfl) ?_
    refine WP.s .n (O.lenS rfl Try.underlying67) ?_
    refine WP.s .n (O.mv rfl) ?_
    refine WP.nil ?_
    refine QE.next ?_
    refine CW.block ?_
    refine ST.obtold 0 rfl (OB.row_eq (ys := (combP x b 0 0)) (combP_zero x b).symm) ?_
    refine CW.loop (fun (i : Nat) => i ≤ b.length) (fun (i : Nat) => [(0, (kSl kZ).is x), (1, (kSl (kSl kZ)).is b), (5, VP.ex v1), (18, (kSl (kSl kZ)).is b), (19, (kInt .i64).is (b.length : Int)), (20, (kInt .i64).is (i : Int))]) (fun (i : Nat) => [OB.row v1 31 kC (combP x b i 0)]) (fun (i : Nat) => b.length - i) 0 (by omega) (Imp.cons rfl (Imp.cons rfl (Imp.cons rfl (Imp.cons rfl (Imp.cons rfl (Imp.consLe rfl (is_eq (y := (0 : Int)) (by first | rfl | omega | assumption)) Imp.nil)))))) (OImp.refl _) ?_
    intro i hi
    refine CW.seq ?_
    refine CW.region ?_
    refine WP.s .n (O.lt rfl rfl) ?_
    refine WP.nil ?_
    refine QE.next ?_
    refine CW.seq ?_
    refine CW.condD rfl (fun h_t21 => ?_) (fun h_t21 => ?_)
    · refine CW.skip ?_
      refine QE.next ?_
      refine CW.seq ?_
      refine CW.block ?_
      refine CW.seq ?_
      refine CW.region ?_
      refine WP.s .n (O.mv rfl) ?_
      refine WP.s .n (O.ix i rfl rfl Try.underlying67 ty27 rfl (v := (b.getD i [])) (gd [] (by (first | omega | (simp only [combP_len]; have := hr i (by omega); omega))))) ?_
      refine WP.s .n (O.ldP rfl ty27) ?_
      refine WP.s .n (O.asg rfl) ?_
      refine WP.s .n (O.asg rfl) ?_
      refine WP.nil ?_
      refine QE.next ?_
      refine CW.seq ?_
      refine CW.region ?_
      refine ST.fact (i := 7) rfl sl_len fun hlk => ?_
      refine WP.s .n (O.mv rfl) ?_
      refine WP.s .n (O.lenS rfl Try.underlying27) ?_
      refine WP.s .n (O.mv rfl) ?_
      refine WP.nil ?_
      refine QE.next ?_
      refine CW.block ?_
      refine CW.loop (fun (k : Nat) => k ≤ (b.getD i []).length) (fun (k : Nat) => [(0, (kSl kZ).is x), (1, (kSl (kSl kZ)).is b), (5, VP.ex v1), (6, (kInt .i64).is (i : Int)), (7, (kSl kZ).is (b.getD i [])), (18, (kSl (kSl kZ)).is b), (19, (kInt .i64).is (b.length : Int)), (20, (kInt .i64).is (i : Int)), (25, (kSl kZ).is (b.getD i [])), (26, (kInt .i64).is ((b.getD i []).length : Int)), (27, (kInt .i64).is (k : Int))]) (fun (k : Nat) => [OB.row v1 31 kC (combP x b i k)]) (fun (k : Nat) => (b.getD i []).length - k) 0 (by omega) (Imp.cons rfl (Imp.cons rfl (Imp.cons rfl (Imp.cons rfl (Imp.cons rfl (Imp.cons rfl (Imp.cons rfl (Imp.cons rfl (Imp.cons rfl (Imp.cons rfl (Imp.consLe rfl (is_eq (y := (0 : Int)) (by first | rfl | omega | assumption)) Imp.nil))))))))))) (OImp.refl _) ?_
      intro k hk
      refine CW.seq ?_
      refine CW.region ?_
      refine WP.s .n (O.lt rfl rfl) ?_
      refine WP.nil ?_
      refine QE.next ?_
      refine CW.seq ?_
      refine CW.condD rfl (fun h_t28 => ?_) (fun h_t28 => ?_)
      · refine CW.skip ?_
        refine QE.next ?_
        refine CW.seq ?_
        refine CW.block ?_
        refine CW.seq ?_
        refine CW.region ?_
        refine WP.s .n (O.mv rfl) ?_
        refine WP.s .n (O.ix k rfl rfl Try.underlying27 ty31 rfl (v := ((b.getD i []).getD k 0)) (gd 0 (by (first | omega | (simp only [combP_len]; have := hr i (by omega); omega))))) ?_
        refine WP.s .n (O.ldP rfl ty31) ?_
        refine WP.al .n z31_C fun b2 => ?_
        refine WP.s .n (O.asg rfl) ?_
        refine WP.t .n (O.stW (l := kZ) (u := ((b.getD i []).getD k 0)) 0 rfl rfl rfl ty31 rfl (VP.le_refl _)) ?_
        refine WP.nil ?_
        refine QE.next ?_
        refine CW.draw (Γ := [.fr (VP.ex v1), .fr ((kInt .i64).is (k : Int)), .fr (VP.ex v1), .fr ((kInt .i64).is (k : Int)), .fr (VP.pel v1 (k * 2)), .fr (kC.is (combN x b k i)), .fr ((kSl kZ).is x), .fr ((kInt .i64).is (i : Int)), .fr (VP.pim kZ (x.getD i 0)), .fr (kZ.is (x.getD i 0)), .fr (kZ.is ((b.getD i []).getD k 0)), .fr (kC.is ((x.getD i 0) * ((b.getD i []).getD k 0))), .fr (kC.is ((combN x b k i) + ((x.getD i 0) * ((b.getD i []).getD k 0)))), .fr (VP.pel v1 (k * 2))]) (lates := [false, false, false, false, false, false, false, false, false, false, false, false, false, false]) (by kernel_rfl) (Chk.of rfl (by kernel_rfl) rfl) (fun _ _ _ _ _ h => h) (fun q_ x_ h_ => ?_) (fun σ1 => ?_)
        · match q_, h_ with
          | 0, h_ => cases h_; exact Ob.f rfl .n fun N => (O.mv rfl)
          | 1, h_ => cases h_; exact Ob.f rfl .n fun N => (O.mv rfl)
          | 2, h_ => cases h_; exact Ob.f rfl .n fun N => (O.mv rfl)
          | 3, h_ => cases h_; exact Ob.f rfl .n fun N => (O.mv rfl)
          | 4, h_ => cases h_; exact Ob.f rfl .n fun N => (O.ixR (k := kC) (xs := (combP x b i k)) (n := (k : Int)) k rfl rfl (mem_app N (mem_at 1 rfl)) Try.underlying27 ty31 rfl (by (first | omega | (simp only [combP_len]; have := hr i (by omega); omega))))
          | 5, h_ => cases h_; exact Ob.f rfl .n fun N => (O.ldR (k := kC) (xs := (combP x b i k)) k rfl (mem_app N (mem_at 1 rfl)) (Lens.id _) (ho := rfl) (y := (combN x b k i)) (combP_at (by have := hr i (by omega); omega)) ty31 rfl)
          | 6, h_ => cases h_; exact Ob.f rfl .n fun N => (O.mv rfl)
          | 7, h_ => cases h_; exact Ob.f rfl .n fun N => (O.mv rfl)
          | 8, h_ => cases h_; exact Ob.f rfl .n fun N => (O.ix i rfl rfl Try.underlying27 ty31 rfl (v := (x.getD i 0)) (gd 0 (by (first | omega | (simp only [combP_len]; have := hr i (by omega); omega)))))
          | 9, h_ => cases h_; exact Ob.f rfl .n fun N => (O.ldP rfl ty31)
          | 10, h_ => cases h_; exact Ob.f rfl .n fun N => (O.ld rfl (mem_app N (mem_at 0 rfl)) (Lens.id _) ty31 rfl)
          | 11, h_ => cases h_; exact Ob.f rfl .n fun N => (O.fn fn76 (evs.c rfl (evs.c rfl evs.nil)) (c_zint_Mul (x.getD i 0) ((b.getD i []).getD k 0)))
          | 12, h_ => cases h_; exact Ob.f rfl .n fun N => (O.fn fn77 (evs.l rfl (kC_Z (by first | exact (hx i).sm (by omega) | exact (hb i k).sm (by omega) | exact (combN_Sz hx hb k i).sm (by omega) | exact ((hx i).mul (hb i k)).sm (by omega))) (evs.l rfl (kC_Z (by first | exact (hx i).sm (by omega) | exact (hb i k).sm (by omega) | exact (combN_Sz hx hb k i).sm (by omega) | exact ((hx i).mul (hb i k)).sm (by omega))) evs.nil)) (c_zint_Add (combN x b k i) ((x.getD i 0) * ((b.getD i []).getD k 0))))
          | 13, h_ => cases h_; exact Ob.f rfl .n fun N => (O.ixR (k := kC) (xs := (combP x b i k)) (n := (k : Int)) k rfl rfl (mem_app N (mem_at 1 rfl)) Try.underlying27 ty31 rfl (by (first | omega | (simp only [combP_len]; have := hr i (by omega); omega))))
          | n_ + 14, h_ => simp at h_
        refine WP.t .n (O.stR 1 k rfl rfl (Lens.id _) rfl (y0 := ((combP x b i k).getD k 0)) (gd 0 (by (first | omega | (simp only [combP_len]; have := hr i (by omega); omega)))) ty31 rfl (VP.le_refl _)) ?_
        refine WP.nil ?_
        refine QE.blkN ?_
        refine QE.next ?_
        refine CW.region ?_
        refine WP.s .n (O.add rfl rfl (c := ((k : Int) + 1)) (w64 (by omega))) ?_
        refine WP.s .n (O.mv rfl) ?_
        refine WP.nil ?_
        refine ST.obtold 1 rfl (OB.row_eq (ys := (combP x b i (k + 1))) (combP_set (by have := hr i (by omega); omega))) ?_
        exact QE.round (k + 1) (by omega) (by omega) (Imp.cons rfl (Imp.cons rfl (Imp.cons rfl (Imp.cons rfl (Imp.cons rfl (Imp.cons rfl (Imp.cons rfl (Imp.cons rfl (Imp.cons rfl (Imp.cons rfl (Imp.consLe rfl (is_eq (y := (((k + 1) : Nat) : Int)) (by first | rfl | omega | assumption)) Imp.nil))))))))))) (OImp.os (OS.skip (OS.keep OS.nil)))
      · refine CW.exit ?_
        refine QE.thenE ?_
        refine QE.thenE ?_
        refine QE.blkH ?_
        refine QE.blkN ?_
        refine QE.next ?_
        refine CW.region ?_
        refine WP.s .n (O.add rfl rfl (c := ((i : Int) + 1)) (w64 (by omega))) ?_
        refine WP.s .n (O.mv rfl) ?_
        refine WP.nil ?_
        refine ST.obtold 0 rfl (OB.row_eq (ys := (combP x b (i + 1) 0)) (combP_row (by have := hr i (by omega); omega))) ?_
        exact QE.round (i + 1) (by omega) (by omega) (Imp.cons rfl (Imp.cons rfl (Imp.cons rfl (Imp.cons rfl (Imp.cons rfl (Imp.consLe rfl (is_eq (y := (((i + 1) : Nat) : Int)) (by first | rfl | omega | assumption)) Imp.nil)))))) (OImp.refl _)
    · refine CW.exit ?_
      refine QE.thenE ?_
      refine QE.thenE ?_
      refine QE.blkH ?_
      refine QE.next ?_
      refine CW.seq ?_
      refine CW.region ?_
      refine WP.s .n (O.mv rfl) ?_
      refine WP.s .n (O.asg rfl) ?_
      refine WP.nil ?_
      refine QE.next ?_
      refine CW.ret ?_
      refine ST.freeze 0 rfl (.keep (i := 0) rfl (.keep (i := 1) rfl (.hit (i := 4) rfl (.hit (i := 5) rfl (.keep (i := 18) rfl (.keep (i := 19) rfl (.keep (i := 20) rfl (.keep (i := 21) rfl (.hit (i := 48) rfl .nil))))))))) ?_
      refine ST.told 4 rfl (is_eq (y := (combV x b)) (by rw [show i = b.length by omega, combP_end])) ?_
      exact QE.done (.inl rfl) rfl (ResOk.t rfl ResOk.nil) (OImp.sub (List.nil_sublist _)) ⟨rfl, rfl⟩

set_option maxRecDepth 20000 in
set_option maxHeartbeats 1000000 in
theorem c_mat_Combine (n : Nat) (x : List Int) (b : List (List Int)) (hx : SzL n x) (hb : SzM n b) (hn : n + n + b.length ≤ 549755813000) : Fn Try.prog 69 [(kSl kZ).is x, (kSl (kSl kZ)).is b] (VP.tup [(kSl kC).is (combA x b), (kInt .i64).is (combE x b)]) := by
  refine Con.enter Try.func69 rfl rfl fun m w => ?_
  refine ST.fact (i := 0) rfl sl_len fun hA => ?_
  refine ST.fact (i := 1) rfl sl_len fun hB => ?_
  refine CW.seq ?_
  refine CW.region ?_
  refine WP.s .n (O.asg rfl) ?_
  refine WP.s .n (O.asg rfl) ?_
  refine WP.nil ?_
  refine QE.next ?_
  refine CW.seq ?_
  refine CW.region ?_
  refine WP.s .n (O.mv rfl) ?_
  refine WP.s .n (O.fn fn135 (evs.c rfl evs.nil) (c_mat_Shape b)) ?_
  refine WP.s .n (O.mv rfl) ?_
  refine WP.s .n (O.ext rfl rfl) ?_
  refine WP.s .n (O.ext rfl rfl) ?_
  refine WP.s .n (O.ext rfl rfl) ?_
  refine WP.s .n (O.asg rfl) ?_
  refine WP.s .n (O.asg rfl) ?_
  refine WP.s .n (O.asg rfl) ?_
  refine WP.nil ?_
  refine QE.next ?_
  refine CW.seq ?_
  refine CW.seq ?_
  refine CW.region ?_
  refine WP.s .n (O.mv rfl) ?_
  refine WP.s .n (O.ne rfl rfl) ?_
  refine WP.s .n (O.mv rfl) ?_
  refine WP.splitD 17 rfl (fun h_t17 => ?_) (fun h_t17 => ?_)
  · have hno : ¬ combOk x b := fun h => not_rect_of_shE h_t17 h.1
    refine WP.ku (b := true) rfl rfl ?_
    refine WP.ku (b := true) rfl rfl ?_
    refine WP.ku (b := true) rfl rfl ?_
    refine WP.ku (b := true) rfl rfl ?_
    refine WP.s .n (O.pickT rfl rfl) ?_
    refine WP.nil ?_
    refine QE.next ?_
    refine CW.condT rfl ?_
    refine CW.seq ?_
    refine CW.region ?_
    refine WP.s .n (O.asg rfl) ?_
    refine WP.s .n (O.asg rfl) ?_
    refine WP.nil ?_
    refine QE.next ?_
    refine CW.ret ?_
    refine QE.thenR ?_
    refine ST.told (q := (kSl kC).is (combA x b)) 4 rfl (VP.le_trans (nil_le _) (is_eq (comb_no hno).1.symm)) ?_
    refine ST.told 5 rfl (is_eq (y := (combE x b)) (comb_no hno).2.symm) ?_
    exact QE.done (.inl rfl) rfl (ResOk.t rfl (ResOk.t rfl ResOk.nil)) (OImp.sub (List.nil_sublist _)) ⟨rfl, rfl⟩
  · refine WP.s (.g rfl rfl) (O.mv rfl) ?_
    refine WP.s (.g rfl rfl) (O.lenS rfl Try.underlying27) ?_
    refine WP.s (.g rfl rfl) (O.mv rfl) ?_
    refine WP.s (.g rfl rfl) (O.ne rfl rfl) ?_
    refine WP.s .n (O.pickF rfl rfl) ?_
    refine WP.nil ?_
    refine QE.next ?_
    refine CW.condD rfl (fun h_t22 => ?_) (fun h_t22 => ?_)
    · refine CW.seq ?_
      refine CW.region ?_
      refine WP.s .n (O.asg rfl) ?_
      refine WP.s .n (O.asg rfl) ?_
      refine WP.nil ?_
      refine QE.next ?_
      refine CW.ret ?_
      refine QE.thenR ?_
      have hno : ¬ combOk x b := fun h => h_t22 (by rw [h.2]; unfold shN; rw [if_pos h.1])
      refine ST.told (q := (kSl kC).is (combA x b)) 4 rfl (VP.le_trans (nil_le _) (is_eq (comb_no hno).1.symm)) ?_
      refine ST.told 5 rfl (is_eq (y := (combE x b)) (comb_no hno).2.symm) ?_
      exact QE.done (.inl rfl) rfl (ResOk.t rfl (ResOk.t rfl ResOk.nil)) (OImp.sub (List.nil_sublist _)) ⟨rfl, rfl⟩
    · refine CW.skip ?_
      refine QE.next ?_
      refine CW.seq ?_
      have hok : combOk x b := ⟨rect_of_shE h_t17, by have h := h_t22; unfold shN at h; rw [if_pos (rect_of_shE h_t17)] at h; omega⟩
      refine CW.region ?_
      refine WP.s .n (O.mv rfl) ?_
      refine WP.s .n (O.mv rfl) ?_
      refine WP.s .n (O.fn fn141 (evs.c rfl (evs.c rfl evs.nil)) (c_mat_combine n x b (by first | assumption | exact rectL hok.1 | (have := hok.2; omega)) (by first | assumption | exact rectL hok.1 | (have := hok.2; omega)) (by first | assumption | exact rectL hok.1 | (have := hok.2; omega)) (by first | assumption | exact rectL hok.1 | (have := hok.2; omega)) (by first | assumption | exact rectL hok.1 | (have := hok.2; omega)))) ?_
      refine WP.s .n (O.asg rfl) ?_
      refine WP.s .n (O.asg rfl) ?_
      refine WP.nil ?_
      refine QE.next ?_
      refine CW.ret ?_
      refine ST.told 4 rfl (is_eq (y := (combA x b)) (comb_yes hok).1) ?_
      refine ST.told 5 rfl (is_eq (y := (combE x b)) (comb_yes hok).2.symm) ?_
      exact QE.done (.inl rfl) rfl (ResOk.t rfl (ResOk.t rfl ResOk.nil)) (OImp.sub (List.nil_sublist _)) ⟨rfl, rfl⟩

end Fw


/- Gram-Schmidt data: what the program answers. -/
set_option linter.unusedVariables false
set_option linter.unusedSimpArgs false
set_option exponentiation.threshold 400
namespace Fw
open Go Go.Proofs

end Fw


/- Plain facts: what rows may be; Gram-Schmidt data as fractions. -/
set_option linter.unusedVariables false
set_option linter.unusedSimpArgs false
set_option exponentiation.threshold 400
namespace Fw
open Go

section
variable {C : Ctx} {Q : Exit → Act → World → Prop} {ρ ρ' : Env} {L L' : List OB}
end

/-! ### Which rows may be -/
def bigN (b : List (List Int)) (bits : Bool) (i : Nat) : Bool := (decide ((12 : Int) < (b.length : Int)) || (bits && decide ((256 : Int) < mbits b))) || (b.take i).any (fun r => decide ((12 : Int) < (r.length : Int)))
theorem bigN_no {b bits} (h : ¬ bigN b bits b.length = true) : b.length ≤ 12 ∧ (bits = true → mbits b ≤ 256) ∧ ∀ i, (b.getD i []).length ≤ 12 := by
  unfold bigN at h
  simp only [List.take_length, Bool.or_eq_true, Bool.and_eq_true, decide_eq_true_eq, List.any_eq_true, not_or, not_and, not_exists] at h
  obtain ⟨⟨h1, h2⟩, h3⟩ := h
  refine ⟨by omega, fun hb => by have := h2 hb; omega, fun i => ?_⟩
  by_cases hi : i < b.length
  · have := h3 (b.getD i []) (by rw [gde _ [] hi]; exact List.getElem_mem hi); omega
  · have e : b.getD i [] = [] := by simp [List.getD, Nat.le_of_not_lt hi]
    rw [e]; simp
theorem vbN_le {c : Int} {v : List Int} : ∀ {n : Int}, n ≤ c → (∀ x ∈ v, (bitlen x.natAbs : Int) ≤ c) → vbN n v ≤ c := by
  induction v with
  | nil => intro n h _; exact h
  | cons x v ih =>
    intro n h hx
    refine ih (n := vbF n x) ?_ (fun y hy => hx y (List.mem_cons_of_mem _ hy))
    have := hx x (by simp)
    unfold vbF
    omega
theorem mb_ge : ∀ (b : List (List Int)) (n : Int), n ≤ b.foldl vbN n
  | [], n => Int.le_refl n
  | r :: b, n => Int.le_trans (vbN_ge n r) (mb_ge b (vbN n r))
theorem mb_mem : ∀ {b : List (List Int)} {n : Int} {r : List Int} {x : Int}, r ∈ b → x ∈ r → (bitlen x.natAbs : Int) ≤ b.foldl vbN n
  | s :: b, n, r, x, h, hx => by
    rcases List.mem_cons.1 h with e | h
    · subst e; exact Int.le_trans (vbN_mem hx) (mb_ge b _)
    · exact mb_mem (b := b) (n := vbN n s) h hx
theorem mb_le {c : Int} : ∀ {b : List (List Int)} {n : Int}, n ≤ c → (∀ r ∈ b, ∀ x ∈ r, (bitlen x.natAbs : Int) ≤ c) → b.foldl vbN n ≤ c
  | [], n, h, _ => h
  | r :: b, n, h, hx => mb_le (b := b) (vbN_le h (hx r (by simp))) (fun s hs => hx s (List.mem_cons_of_mem _ hs))
theorem getD_mem {α : Type} {l : List α} {i : Nat} (d : α) (h : i < l.length) : l.getD i d ∈ l := by rw [gde l d h]; exact List.getElem_mem h
theorem mem_getD {α : Type} {l : List α} {x : α} (d : α) (h : x ∈ l) : ∃ i, i < l.length ∧ l.getD i d = x := by
  obtain ⟨i, hi, rfl⟩ := List.getElem_of_mem h
  exact ⟨i, hi, gde l d hi⟩
theorem mbits_Sz {b : List (List Int)} {c : Nat} (h : mbits b ≤ c) : SzM c b := by
  intro i k
  by_cases hi : i < b.length
  · by_cases hk : k < (b.getD i []).length
    · have h1 := mb_mem (n := 0) (getD_mem [] hi) (getD_mem 0 hk)
      have h2 := lt_bitlen ((b.getD i []).getD k 0).natAbs
      exact Nat.lt_of_lt_of_le h2 (Nat.pow_le_pow_right (by decide) (by have h3 : mbits b = b.foldl vbN 0 := rfl; omega))
    · have e : (b.getD i []).getD k 0 = 0 := by rw [List.getD_eq_getElem?_getD, List.getElem?_eq_none (by omega)]; rfl
      rw [e]; exact Sz.zero _
  · have e : b.getD i [] = [] := by simp [List.getD, Nat.le_of_not_lt hi]
    rw [e]; exact Sz.zero _
/-- rows as far as they were looked at -/
def rowsTo (b : List (List Int)) (bits : Bool) (i : Nat) : Prop := ∀ j, j < i → (b.getD j []).length ≤ 12 ∧ (bits = true → ∀ k, k < (b.getD j []).length → (bitlen ((b.getD j []).getD k 0).natAbs : Int) ≤ 256)
theorem rowsTo_end {b bits} (h0 : ¬ (12 : Int) < (b.length : Int)) (h : rowsTo b bits b.length) : ¬ bigN b bits b.length = true := by
  unfold bigN
  simp only [List.take_length, Bool.or_eq_true, Bool.and_eq_true, decide_eq_true_eq, List.any_eq_true, not_or, not_and, not_exists]
  refine ⟨⟨h0, fun hb => ?_⟩, fun r hr => ?_⟩
  · have : mbits b ≤ 256 := mb_le (by decide) fun r hr x hx => by
      obtain ⟨j, hj, rfl⟩ := mem_getD [] hr
      obtain ⟨k, hk, rfl⟩ := mem_getD 0 hx
      exact (h j hj).2 hb k hk
    omega
  · obtain ⟨j, hj, rfl⟩ := mem_getD [] hr
    have := (h j hj).1; omega
theorem big_row {b bits i} (hi : i < b.length) (h : (12 : Int) < ((b.getD i []).length : Int)) : bigN b bits b.length = true := by
  unfold bigN
  simp only [List.take_length, Bool.or_eq_true, decide_eq_true_eq, List.any_eq_true]
  exact .inr ⟨_, getD_mem [] hi, h⟩
theorem big_len {b bits} (h : (12 : Int) < (b.length : Int)) : bigN b bits b.length = true := by
  unfold bigN
  simp only [Bool.or_eq_true, decide_eq_true_eq]
  exact .inl (.inl h)

/-! ### The errors of a basis -/
/-! ### Gram-Schmidt data as fractions -/
def frS (G : Nat → Nat → Int) (k : Nat) : Rat := gsE (qG G) k k k
def frM (G : Nat → Nat → Int) (i j : Nat) : Rat := gsE (qG G) j i j / gsE (qG G) j j j
theorem frM_eq {G : Nat → Nat → Int} (hs : SymG G) {j : Nat} (hp : PosU G (j + 1)) {i : Nat} (hi : j ≤ i) : frM G i j = (uE G j i j : Rat) / (uE G j j j : Rat) := by
  have h := hp.le (show j ≤ j + 1 by omega)
  have hd : 0 < uD G j := hp.uD (by omega)
  have hd2 := rat_ne (show uD G j ≠ 0 by omega)
  have hu := rat_ne (show uE G j j j ≠ 0 by have := hp j (by omega); omega)
  unfold frM
  rw [gsE_frac hs h hi (Nat.le_refl j), gsE_frac hs h (Nat.le_refl j) (Nat.le_refl j)]
  grind
end Fw


/- Which rows may be; the data of rows: what the functions answer. -/
set_option linter.unusedVariables false
set_option linter.unusedSimpArgs false
set_option exponentiation.threshold 400
namespace Fw
open Go Go.Proofs

end Fw


/- Gram-Schmidt data of the document. -/
set_option linter.unusedVariables false
set_option linter.unusedSimpArgs false
set_option exponentiation.threshold 400
namespace Fw
open Go Go.Proofs

end Fw


/- Plain facts: whether an answer on a shortest vector belongs together. -/
set_option linter.unusedVariables false
set_option linter.unusedSimpArgs false
set_option exponentiation.threshold 400
namespace Fw
open Go

theorem SzM.up {n m b} (h : SzM n b) (hm : n ≤ m) : SzM m b := fun i k => (h i k).up hm
theorem SzL.up {n m u} (h : SzL n u) (hm : n ≤ m) : SzL m u := fun k => (h k).up hm
theorem SzL.nil (n) : SzL n [] := fun k => by rw [List.getD_nil]; exact Sz.zero _
theorem SzL.sm {m u} (h : SzL m u) (hm : m ≤ 549755813888) : ∀ x ∈ u, Sm x := fun x hx => by
  obtain ⟨i, hi, rfl⟩ := mem_getD 0 hx
  exact (h i).sm hm
theorem sgn0 {x y : Int} : (x - y).sign = 0 ↔ x = y := by rw [Int.sign_eq_zero_iff_zero]; omega
end Fw


/- Own memory: what the helpers of the statements on layer 16 answer. -/
set_option linter.unusedVariables false
set_option linter.unusedSimpArgs false
set_option exponentiation.threshold 70
namespace Fw
open Go Go.Proofs

end Fw


/- ShortChecks: what the functions answer. -/
set_option linter.unusedVariables false
set_option linter.unusedSimpArgs false
set_option exponentiation.threshold 400
namespace Fw
open Go Go.Proofs

end Fw


/- Plain facts: forms by their matrices: which may be, their data, their values. -/
set_option linter.unusedVariables false
set_option linter.unusedSimpArgs false
set_option exponentiation.threshold 400
namespace Fw
open Go

def matF (a : List (List Int)) : Nat → Nat → Int := fun i j => (a.getD i []).getD j 0
def sqN (a : List (List Int)) (i : Nat) : Bool := (a.take i).all (fun r => decide ((r.length : Int) = (a.length : Int)))
def symB (a : List (List Int)) : Bool := (List.range a.length).all (fun i => (List.range i).all (fun k => decide (matF a i k = matF a k i)))
def qshape (a : List (List Int)) : Int := if bigN a true a.length = true then 40 else if a.length = 0 then 41 else if sqN a a.length = true then (if symB a = true then 0 else 220) else 8
theorem sqN_iff {a} : sqN a a.length = true ↔ ∀ i, i < a.length → (a.getD i []).length = a.length := by
  unfold sqN
  rw [List.take_length, List.all_eq_true]
  constructor
  · intro h i hi; have := of_decide_eq_true (h _ (getD_mem [] hi)); omega
  · intro h r hr; obtain ⟨i, hi, rfl⟩ := mem_getD [] hr; have := h i hi; simp only [decide_eq_true_eq]; omega
theorem symB_iff {a} : symB a = true ↔ ∀ i, i < a.length → ∀ k, k < i → matF a i k = matF a k i := by
  simp [symB]
theorem mbits_row {a : List (List Int)} {i} (hi : i < a.length) : mbits [a.getD i []] ≤ mbits a := by
  have h0 : (0 : Int) ≤ mbits a := mb_ge a 0
  show vbN 0 (a.getD i []) ≤ mbits a
  exact vbN_le h0 fun x hx => mb_mem (n := 0) (getD_mem [] hi) hx
theorem big_bits {a : List (List Int)} {i} (hi : i < a.length) (h : (256 : Int) < mbits [a.getD i []]) : bigN a true a.length = true := by
  have := mbits_row hi
  unfold bigN
  simp only [List.take_length, Bool.or_eq_true, Bool.and_eq_true, decide_eq_true_eq, List.any_eq_true]
  exact .inl (.inr ⟨trivial, by omega⟩)
theorem rowsTo_next {a : List (List Int)} {i} (h : rowsTo a true i) (h1 : ¬ (12 : Int) < ((a.getD i []).length : Int)) (h2 : ¬ (256 : Int) < mbits [a.getD i []]) : rowsTo a true (i + 1) := by
  intro j hj
  by_cases e : j = i
  · subst e
    refine ⟨by omega, fun _ k hk => ?_⟩
    have h3 : (bitlen ((a.getD j []).getD k 0).natAbs : Int) ≤ vbN 0 (a.getD j []) := vbN_mem (getD_mem 0 hk)
    have h4 : mbits [a.getD j []] = vbN 0 (a.getD j []) := rfl
    omega
  · exact h j (by omega)
theorem qshape_1 {a} (h : bigN a true a.length = true) : qshape a = 40 := if_pos h
theorem qshape_2 {a} (h : ¬ bigN a true a.length = true) (h2 : a.length = 0) : qshape a = 41 := by unfold qshape; rw [if_neg h, if_pos h2]
theorem qshape_3 {a} (h : ¬ bigN a true a.length = true) (h2 : ¬ a.length = 0) (h3 : ¬ sqN a a.length = true) : qshape a = 8 := by unfold qshape; rw [if_neg h, if_neg h2, if_neg h3]
theorem qshape_4 {a} (h : ¬ bigN a true a.length = true) (h2 : ¬ a.length = 0) (h3 : sqN a a.length = true) (h4 : ¬ symB a = true) : qshape a = 220 := by unfold qshape; rw [if_neg h, if_neg h2, if_pos h3, if_neg h4]
theorem qshape_5 {a} (h : ¬ bigN a true a.length = true) (h2 : ¬ a.length = 0) (h3 : sqN a a.length = true) (h4 : symB a = true) : qshape a = 0 := by unfold qshape; rw [if_neg h, if_neg h2, if_pos h3, if_pos h4]
theorem not_sq {a : List (List Int)} {i} (hi : i < a.length) (h : ((a.getD i []).length : Int) ≠ (a.length : Int)) : ¬ sqN a a.length = true := fun e => h (by rw [sqN_iff.1 e i hi])
theorem not_sym {a : List (List Int)} {i k} (hi : i < a.length) (hk : k < i) (h : (matF a i k - matF a k i).sign ≠ 0) : ¬ symB a = true := fun e => h (sgn0.2 (symB_iff.1 e i hi k hk))
/-- a matrix that is looked at as a form -/
structure Sqm (a : List (List Int)) : Prop where
  z : SzM 256 a
  n : a.length ≤ 12
  n0 : 0 < a.length
  q : ∀ i, i < a.length → (a.getD i []).length = a.length
  s : SymG (matF a)
theorem matF_out {a : List (List Int)} (h : ∀ i, i < a.length → (a.getD i []).length = a.length) {i j} (hij : ¬ (i < a.length ∧ j < a.length)) : matF a i j = 0 := by
  unfold matF
  by_cases hi : i < a.length
  · rw [List.getD_eq_getElem?_getD, List.getElem?_eq_none (by rw [h i hi]; omega)]; rfl
  · have e : a.getD i [] = [] := by rw [List.getD_eq_getElem?_getD, List.getElem?_eq_none (by omega)]; rfl
    rw [e]; rfl
theorem matF_sym {a : List (List Int)} (h : ∀ i, i < a.length → (a.getD i []).length = a.length) (hs : ∀ i, i < a.length → ∀ k, k < i → matF a i k = matF a k i) : SymG (matF a) := by
  intro i j
  by_cases hij : i < a.length ∧ j < a.length
  · rcases Nat.lt_trichotomy i j with h1 | h1 | h1
    · exact (hs j hij.2 i h1).symm
    · rw [h1]
    · exact hs i hij.1 j h1
  · rw [matF_out h hij, matF_out h (fun e => hij ⟨e.2, e.1⟩)]
theorem sqm_of {a} (h : qshape a = 0) : Sqm a := by
  by_cases h1 : bigN a true a.length = true
  · rw [qshape_1 h1] at h; exact absurd h (by decide)
  · by_cases h2 : a.length = 0
    · rw [qshape_2 h1 h2] at h; exact absurd h (by decide)
    · by_cases h3 : sqN a a.length = true
      · by_cases h4 : symB a = true
        · obtain ⟨b1, b2, b3⟩ := bigN_no h1
          exact ⟨mbits_Sz (b2 rfl), b1, by omega, sqN_iff.1 h3, matF_sym (sqN_iff.1 h3) (symB_iff.1 h4)⟩
        · rw [qshape_4 h1 h2 h3 h4] at h; exact absurd h (by decide)
      · rw [qshape_3 h1 h2 h3] at h; exact absurd h (by decide)
theorem matF_Sz {n a} (h : SzM n a) (i j) : Sz n (matF a i j) := h i j
def quadE (a : List (List Int)) : Int := if qshape a ≠ 0 then qshape a else if gOk (matF a) a.length = true then 0 else 221
theorem quadE_1 {a} (h : qshape a ≠ 0) : quadE a = qshape a := if_pos h
theorem quadE_2 {a} (h : ¬ qshape a ≠ 0) (h2 : gOk (matF a) a.length = false) : quadE a = 221 := by
  unfold quadE; rw [if_neg h, if_neg (by simp [h2])]
theorem quadE_3 {a} (h : ¬ qshape a ≠ 0) (h2 : gOk (matF a) a.length = true) : quadE a = 0 := by
  unfold quadE; rw [if_neg h, if_pos h2]
theorem quad_ok {a} (h : quadE a = 0) : Sqm a ∧ PosU (matF a) a.length := by
  unfold quadE at h
  by_cases h1 : qshape a ≠ 0
  · rw [if_pos h1] at h; exact absurd h h1
  · rw [if_neg h1] at h
    by_cases h2 : gOk (matF a) a.length = true
    · exact ⟨sqm_of (by omega), gOk_iff.1 h2⟩
    · rw [if_neg h2] at h; exact absurd h (by decide)
theorem sqm_rect {a} (h : Sqm a) : RectL a := fun i hi => by rw [h.q i hi, h.q 0 h.n0]
theorem sqm_rb {a} (h : Sqm a) : rect a = true := rect_iff.2 (sqm_rect h)
/-- the value at x -/
def qval (a : List (List Int)) (x : List Int) : Int := dotV (combV x a) x
def qvalE (a : List (List Int)) (x : List Int) : Int := if quadE a ≠ 0 then quadE a else if x.length = a.length then 0 else 8
def qvalV (a : List (List Int)) (x : List Int) : Int := if quadE a ≠ 0 then 0 else if x.length = a.length then qval a x else 0
theorem combV_Sz {n m x b} (hx : SzL n x) (hb : SzM m b) : SzL (n + m + b.length) (combV x b) := by
  intro k
  by_cases hk : k < (b.getD 0 []).length
  · rw [combV_get hk]; exact combN_Sz hx hb k _
  · rw [List.getD_eq_getElem?_getD, List.getElem?_eq_none (by rw [combV_len]; omega)]; exact Sz.zero _
end Fw


/- Plain facts: Gauss's steps on binary forms. -/
set_option linter.unusedVariables false
set_option linter.unusedSimpArgs false
set_option exponentiation.threshold 400
namespace Fw
open Go

def posF (A B C : Int) : Prop := 0 < A ∧ B * B < 4 * (A * C)
instance (A B C : Int) : Decidable (posF A B C) := by unfold posF; infer_instance
def kF (A B : Int) : Int := (A - B).fdiv (A + A)
def sB (A B : Int) : Int := B + (A * kF A B + A * kF A B)
def sC (A B C : Int) : Int := (A * kF A B + B) * kF A B + C
def redF (A B C : Int) : Prop := A < C ∨ (A = C ∧ 0 ≤ B)
instance (A B C : Int) : Decidable (redF A B C) := by unfold redF; infer_instance
def gFlag (A B : Int) : Nat := if 0 ≤ B ∧ B ≤ A then 0 else 1
theorem sq_nn (x : Int) : 0 ≤ x * x := by
  rcases Int.le_total 0 x with h | h
  · exact Int.mul_nonneg h h
  · exact Int.mul_nonneg_of_nonpos_of_nonpos h h
theorem kF_rng {A B : Int} (hA : 0 < A) : A * kF A B + A * kF A B ≤ A - B ∧ A - B < A * kF A B + A * kF A B + (A + A) := by
  have h1 := Int.fmod_nonneg_of_pos (A - B) (show 0 < A + A by omega)
  have h2 := Int.fmod_lt_of_pos (A - B) (show 0 < A + A by omega)
  have h3 := Int.mul_fdiv_add_fmod (A - B) (A + A)
  have h4 : (A + A) * (A - B).fdiv (A + A) = A * kF A B + A * kF A B := by unfold kF; rw [Int.add_mul]
  omega
theorem sB_rng {A B : Int} (hA : 0 < A) : -A < sB A B ∧ sB A B ≤ A := by
  have := kF_rng (B := B) hA
  unfold sB; omega
theorem disc_s (A B C : Int) : sB A B * sB A B - 4 * (A * sC A B C) = B * B - 4 * (A * C) := by
  unfold sB sC
  generalize kF A B = k
  grind
theorem pos_s {A B C : Int} (h : posF A B C) : sB A B * sB A B < 4 * (A * sC A B C) ∧ 0 < sC A B C := by
  have h1 := disc_s A B C
  have h2 : sB A B * sB A B < 4 * (A * sC A B C) := by have := h.2; omega
  refine ⟨h2, ?_⟩
  have h3 := sq_nn (sB A B)
  rcases Int.lt_or_le 0 (sC A B C) with h4 | h4
  · exact h4
  · have := Int.mul_nonpos_of_nonneg_of_nonpos (Int.le_of_lt h.1) h4
    omega
theorem kF_0 {A B : Int} (hA : 0 < A) (h : 0 ≤ B ∧ B ≤ A) : kF A B = 0 := by
  unfold kF
  rw [Int.fdiv_eq_ediv_of_nonneg _ (by omega)]
  exact Int.ediv_eq_zero_of_lt (by omega) (by omega)
theorem g_dec {A B C : Int} (h : posF A B C ∧ ¬ redF A (sB A B) (sC A B C)) : 2 * (sC A B C).toNat + gFlag (sC A B C) (-(sB A B)) < 2 * A.toNat + gFlag A B := by
  obtain ⟨hp, hr⟩ := h
  obtain ⟨h1, h2⟩ := pos_s hp
  have hA := hp.1
  have h3 := sB_rng (B := B) hA
  unfold redF at hr
  by_cases hc : sC A B C < A
  · have h4 : gFlag (sC A B C) (-(sB A B)) ≤ 1 := by unfold gFlag; split <;> omega
    omega
  · have h5 : A = sC A B C := by omega
    have h6 : sB A B < 0 := by omega
    have h7 : gFlag (sC A B C) (-(sB A B)) = 0 := by unfold gFlag; rw [if_pos (by omega)]
    have h8 : gFlag A B = 1 := by
      unfold gFlag
      rw [if_neg]
      intro h9
      have := kF_0 hA h9
      have h10 : sB A B = B := by unfold sB; rw [this]; omega
      omega
    omega
/-- Gauss's steps, with what they change. -/
def gs (A B C x y z t : Int) : (Int × Int × Int) × List Int :=
  if h : posF A B C ∧ ¬ redF A (sB A B) (sC A B C) then gs (sC A B C) (-(sB A B)) A (y + x * kF A B) (-x) (t + z * kF A B) (-z)
  else ((A, sB A B, sC A B C), [x, y + x * kF A B, z, t + z * kF A B])
termination_by 2 * A.toNat + gFlag A B
decreasing_by exact g_dec h
/-- The reduced form alone. -/
def g1 (A B C : Int) : Int × Int × Int := (gs A B C 1 0 0 1).1
/-! ### What the change makes -/
/-! ### The steps' numbers -/
/-- All that the steps make is of modest size. -/
structure GsS (A B C x y z t : Int) : Prop where
  a : Sm A
  b : Sm B
  c : Sm C
  ab : Sm (A - B)
  aa : Sm (A + A)
  k : Sm (kF A B)
  ak : Sm (A * kF A B)
  a2k : Sm (A * kF A B + A * kF A B)
  akb : Sm (A * kF A B + B)
  akbk : Sm ((A * kF A B + B) * kF A B)
  sb : Sm (sB A B)
  sc : Sm (sC A B C)
  ac : Sm (A - sC A B C)
  fx : Sm x
  fy : Sm y
  fz : Sm z
  ft : Sm t
  xk : Sm (x * kF A B)
  zk : Sm (z * kF A B)
  yk : Sm (y + x * kF A B)
  tk : Sm (t + z * kF A B)
  t2 : Sm 2
  ta : Sm (2 * A)
  tak : Sm (2 * A * kF A B)
/-- Sizes of a shift. -/
structure ShS (A B C k : Int) : Prop where
  a : Sm A
  b : Sm B
  c : Sm C
  ak : Sm (A * k)
  a2k : Sm (A * k + A * k)
  akb : Sm (A * k + B)
  akbk : Sm ((A * k + B) * k)
theorem GsS.sh {A B C x y z t : Int} (h : GsS A B C x y z t) : ShS A B C (kF A B) := ⟨h.a, h.b, h.c, h.ak, h.a2k, h.akb, h.akbk⟩
end Fw


/- Plain facts: what the functions on binary forms answer. -/
set_option linter.unusedVariables false
set_option linter.unusedSimpArgs false
set_option exponentiation.threshold 400
namespace Fw
open Go

end Fw


/- Gauss on binary forms: what the functions answer. -/
set_option linter.unusedVariables false
set_option linter.unusedSimpArgs false
set_option exponentiation.threshold 400
namespace Fw
open Go Go.Proofs

set_option maxRecDepth 20000 in
set_option maxHeartbeats 1000000 in
theorem c_law22_eq (x y : Bool × List Nat) : Fn Try.prog 29 [kI.is x, kI.is y] (kBool.is (decide (x = y))) := by
  refine Con.enter Try.func29 rfl rfl fun m w => ?_
  refine CW.seq ?_
  refine CW.region ?_
  refine WP.bx .n rfl fun b1 => ?_
  refine WP.bx .n rfl fun b2 => ?_
  refine WP.s .n (O.asg rfl) ?_
  refine WP.nil ?_
  refine QE.next ?_
  refine CW.seq ?_
  refine CW.seq ?_
  refine CW.region ?_
  refine WP.s .n (O.fa rfl fld31_0 rfl) ?_
  refine WP.s .n (O.ld rfl (mem_at 1 rfl) (Lens.fst (Lens.id _)) ty4 rfl) ?_
  refine WP.s .n (O.fa rfl fld31_0 rfl) ?_
  refine WP.s .n (O.ld rfl (mem_at 0 rfl) (Lens.fst (Lens.id _)) ty4 rfl) ?_
  refine WP.s .n (O.neB rfl rfl Try.underlying4) ?_
  refine WP.s .n (O.mv rfl) ?_
  refine WP.splitD 11 rfl (fun h_t11 => ?_) (fun h_t11 => ?_)
  · refine WP.ku (b := true) rfl rfl ?_
    refine WP.ku (b := true) rfl rfl ?_
    refine WP.ku (b := true) rfl rfl ?_
    refine WP.ku (b := true) rfl rfl ?_
    refine WP.ku (b := true) rfl rfl ?_
    refine WP.ku (b := true) rfl rfl ?_
    refine WP.ku (b := true) rfl rfl ?_
    refine WP.s .n (O.pickT rfl rfl) ?_
    refine WP.nil ?_
    refine QE.next ?_
    refine CW.condT rfl ?_
    refine CW.seq ?_
    refine CW.region ?_
    refine WP.s .n (O.asg rfl) ?_
    refine WP.nil ?_
    refine QE.next ?_
    refine CW.ret ?_
    refine QE.thenR ?_
    refine ST.told 4 rfl (is_eq (y := (decide (x = y))) (by rw [eq_comm, decide_eq_false_iff_not]; intro e; exact h_t11 (by rw [e]))) ?_
    exact QE.done (.inl rfl) rfl (ResOk.t rfl ResOk.nil) (OImp.sub (List.nil_sublist _)) ⟨rfl, rfl⟩
  · refine WP.s (.g rfl rfl) (O.fa rfl fld31_1 rfl) ?_
    refine WP.s (.g rfl rfl) (O.ld rfl (mem_at 1 rfl) (Lens.snd (Lens.id _)) ty29 rfl) ?_
    refine WP.s (.g rfl rfl) (O.lenS rfl Try.underlying29) ?_
    refine WP.s (.g rfl rfl) (O.fa rfl fld31_1 rfl) ?_
    refine WP.s (.g rfl rfl) (O.ld rfl (mem_at 0 rfl) (Lens.snd (Lens.id _)) ty29 rfl) ?_
    refine WP.s (.g rfl rfl) (O.lenS rfl Try.underlying29) ?_
    refine WP.s (.g rfl rfl) (O.ne rfl rfl) ?_
    refine WP.s .n (O.pickF rfl rfl) ?_
    refine WP.nil ?_
    refine QE.next ?_
    refine CW.condD rfl (fun h_t19 => ?_) (fun h_t19 => ?_)
    · refine CW.seq ?_
      refine CW.region ?_
      refine WP.s .n (O.asg rfl) ?_
      refine WP.nil ?_
      refine QE.next ?_
      refine CW.ret ?_
      refine QE.thenR ?_
      refine ST.told 4 rfl (is_eq (y := (decide (x = y))) (by rw [eq_comm, decide_eq_false_iff_not]; intro e; exact h_t19 (by rw [e]))) ?_
      exact QE.done (.inl rfl) rfl (ResOk.t rfl ResOk.nil) (OImp.sub (List.nil_sublist _)) ⟨rfl, rfl⟩
    · refine CW.skip ?_
      refine QE.next ?_
      refine CW.seq ?_
      refine CW.seq ?_
      refine ST.fact (i := 13) rfl sl_len fun hB => ?_
      refine CW.region ?_
      refine WP.s .n (O.asg rfl) ?_
      refine WP.nil ?_
      refine QE.next ?_
      refine CW.block ?_
      refine CW.loop (fun (i : Nat) => i ≤ x.2.length ∧ x.2.take i = y.2.take i) (fun (i : Nat) => [(2, VP.ex (.pointer (some ⟨b1, 0, none⟩))), (3, VP.ex (.pointer (some ⟨b2, 0, none⟩))), (5, (kInt .i64).is (i : Int))]) (fun (i : Nat) => [OB.box b2 31 kI y, OB.box b1 31 kI x]) (fun (i : Nat) => x.2.length - i) 0 ⟨Nat.zero_le _, rfl⟩ (Imp.cons rfl (Imp.cons rfl (Imp.consLe rfl (is_eq (y := (0 : Int)) (by omega)) Imp.nil))) (OImp.refl _) ?_
      intro i ⟨hi, ht⟩
      refine CW.seq ?_
      refine CW.seq ?_
      refine CW.region ?_
      refine WP.s .n (O.mv rfl) ?_
      refine WP.s .n (O.fa rfl fld31_1 rfl) ?_
      refine WP.s .n (O.ld rfl (mem_at 1 rfl) (Lens.snd (Lens.id _)) ty29 rfl) ?_
      refine WP.s .n (O.lenS rfl Try.underlying29) ?_
      refine WP.s .n (O.lt rfl rfl) ?_
      refine WP.nil ?_
      refine QE.next ?_
      refine CW.condD rfl (fun h_t24 => ?_) (fun h_t24 => ?_)
      · refine CW.skip ?_
        refine QE.next ?_
        refine CW.seq ?_
        refine CW.block ?_
        refine CW.seq ?_
        refine CW.draw (Γ := [.fr (VP.ex (.pointer (some ⟨b1, 1, none⟩))), .fr (kN.is x.2), .fr ((kInt .i64).is (i : Int)), .fr (VP.pim kLimb (x.2.getD i 0)), .fr ((kInt .u32).is ((x.2.getD i 0) : Int)), .fr (VP.ex (.pointer (some ⟨b2, 1, none⟩))), .fr (kN.is y.2), .fr ((kInt .i64).is (i : Int)), .fr (VP.pim kLimb (y.2.getD i 0)), .fr ((kInt .u32).is ((y.2.getD i 0) : Int)), .fr (kBool.is (decide (((x.2.getD i 0) : Int) ≠ ((y.2.getD i 0) : Int))))]) (lates := [false, false, false, false, false, false, false, false, false, false, false]) (by kernel_rfl) (Chk.of rfl (by kernel_rfl) rfl) (fun _ _ _ _ _ h => h) (fun q_ x_ h_ => ?_) (fun σ1 => ?_)
        · match q_, h_ with
          | 0, h_ => cases h_; exact Ob.f rfl .n fun N => (O.fa rfl fld31_1 rfl)
          | 1, h_ => cases h_; exact Ob.f rfl .n fun N => (O.ld rfl (mem_app N (mem_at 1 rfl)) (Lens.snd (Lens.id _)) ty29 rfl)
          | 2, h_ => cases h_; exact Ob.f rfl .n fun N => (O.mv rfl)
          | 3, h_ => cases h_; exact Ob.f rfl .n fun N => (O.ix i rfl rfl Try.underlying29 ty121 rfl (v := (x.2.getD i 0)) (gd 0 (by omega)))
          | 4, h_ => cases h_; exact Ob.f rfl .n fun N => (OpOk.le (O.ldP rfl ty121) (limb_le _))
          | 5, h_ => cases h_; exact Ob.f rfl .n fun N => (O.fa rfl fld31_1 rfl)
          | 6, h_ => cases h_; exact Ob.f rfl .n fun N => (O.ld rfl (mem_app N (mem_at 0 rfl)) (Lens.snd (Lens.id _)) ty29 rfl)
          | 7, h_ => cases h_; exact Ob.f rfl .n fun N => (O.mv rfl)
          | 8, h_ => cases h_; exact Ob.f rfl .n fun N => (O.ix i rfl rfl Try.underlying29 ty121 rfl (v := (y.2.getD i 0)) (gd 0 (by omega)))
          | 9, h_ => cases h_; exact Ob.f rfl .n fun N => (OpOk.le (O.ldP rfl ty121) (limb_le _))
          | 10, h_ => cases h_; exact Ob.f rfl .n fun N => (O.ne rfl rfl)
          | n_ + 11, h_ => simp at h_
        refine WP.nil ?_
        refine QE.next ?_
        refine CW.condD rfl (fun h_t37 => ?_) (fun h_t37 => ?_)
        · refine CW.seq ?_
          refine CW.region ?_
          refine WP.s .n (O.asg rfl) ?_
          refine WP.nil ?_
          refine QE.next ?_
          refine CW.ret ?_
          refine QE.blkR ?_
          refine QE.thenR ?_
          refine QE.thenR ?_
          refine QE.blkR ?_
          refine QE.thenR ?_
          refine ST.told 4 rfl (is_eq (y := (decide (x = y))) (by rw [eq_comm, decide_eq_false_iff_not]; intro e; exact h_t37 (by rw [e]))) ?_
          exact QE.done (.inl rfl) rfl (ResOk.t rfl ResOk.nil) (OImp.sub (List.nil_sublist _)) ⟨rfl, rfl⟩
        · refine CW.skip ?_
          refine QE.blkN ?_
          refine QE.next ?_
          refine CW.region ?_
          refine WP.s .n (O.mv rfl) ?_
          refine WP.s .n (O.add rfl rfl (c := ((i : Int) + 1)) (w64 (by omega))) ?_
          refine WP.s .n (O.asg rfl) ?_
          refine WP.nil ?_
          exact QE.round (i + 1) (by omega) ⟨by omega, eq_take (d := 0) (by omega) (by omega) ht (by omega)⟩ (Imp.cons rfl (Imp.cons rfl (Imp.consLe rfl (is_eq (y := (((i + 1) : Nat) : Int)) (by omega)) Imp.nil))) (OImp.refl _)
      · refine CW.exit ?_
        refine QE.thenE ?_
        refine QE.thenE ?_
        refine QE.blkH ?_
        refine QE.next ?_
        refine CW.seq ?_
        refine CW.region ?_
        refine WP.s .n (O.asg rfl) ?_
        refine WP.nil ?_
        refine QE.next ?_
        refine CW.ret ?_
        refine ST.told 4 rfl (is_eq (y := (decide (x = y))) (by rw [eq_comm, decide_eq_true_iff]; exact Prod.ext (by simpa using h_t11) (eq_full (i := i) (by omega) (by omega) ht))) ?_
        exact QE.done (.inl rfl) rfl (ResOk.t rfl ResOk.nil) (OImp.sub (List.nil_sublist _)) ⟨rfl, rfl⟩

end Fw


/- Forms by their matrices: what the program answers. -/
set_option linter.unusedVariables false
set_option linter.unusedSimpArgs false
set_option exponentiation.threshold 400
namespace Fw
open Go Go.Proofs

set_option maxRecDepth 20000 in
set_option maxHeartbeats 1000000 in
theorem c_quad_shaped (a : List (List Int)) : Fn Try.prog 112 [(kSl (kSl kZ)).is a] ((kInt .i64).is (qshape a)) := by
  refine Con.enter Try.func112 rfl rfl fun m w => ?_
  refine ST.fact (i := 0) rfl sl_len fun hB => ?_
  refine ST.fact (i := 0) rfl slsl_len fun hlc => ?_
  refine CW.seq ?_
  refine CW.region ?_
  refine WP.s .n (O.asg rfl) ?_
  refine WP.nil ?_
  refine QE.next ?_
  refine CW.seq ?_
  refine CW.seq ?_
  refine CW.region ?_
  refine WP.s .n (O.mv rfl) ?_
  refine WP.s .n (O.lenS rfl Try.underlying67) ?_
  refine WP.s .n (O.gt rfl rfl) ?_
  refine WP.nil ?_
  refine QE.next ?_
  refine CW.condD rfl (fun h_t11 => ?_) (fun h_t11 => ?_)
  · refine CW.seq ?_
    refine CW.region ?_
    refine WP.s .n (O.asg rfl) ?_
    refine WP.nil ?_
    refine QE.next ?_
    refine CW.ret ?_
    refine QE.thenR ?_
    refine ST.told 2 rfl (is_eq (y := (qshape a)) (qshape_1 (big_len h_t11)).symm) ?_
    exact QE.done (.inl rfl) rfl (ResOk.t rfl ResOk.nil) (OImp.sub (List.nil_sublist _)) ⟨rfl, rfl⟩
  · refine CW.skip ?_
    refine QE.next ?_
    refine CW.seq ?_
    refine CW.seq ?_
    refine CW.region ?_
    refine WP.s .n (O.mv rfl) ?_
    refine WP.s .n (O.lenS rfl Try.underlying67) ?_
    refine WP.s .n (O.mv rfl) ?_
    refine WP.nil ?_
    refine QE.next ?_
    refine CW.block ?_
    refine CW.loop (fun (i : Nat) => i ≤ a.length ∧ rowsTo a true i) (fun (i : Nat) => [(0, (kSl (kSl kZ)).is a), (12, (kSl (kSl kZ)).is a), (13, (kInt .i64).is (a.length : Int)), (14, (kInt .i64).is (i : Int))]) (fun (i : Nat) => []) (fun (i : Nat) => a.length - i) 0 ⟨Nat.zero_le _, fun j hj => absurd hj (by omega)⟩ (Imp.cons rfl (Imp.cons rfl (Imp.cons rfl (Imp.consLe rfl (is_eq (y := (0 : Int)) (by first | rfl | omega | assumption)) Imp.nil)))) (OImp.refl _) ?_
    intro i ⟨hi, hA⟩
    refine CW.seq ?_
    refine CW.region ?_
    refine WP.s .n (O.lt rfl rfl) ?_
    refine WP.nil ?_
    refine QE.next ?_
    refine CW.seq ?_
    refine CW.condD rfl (fun h_t15 => ?_) (fun h_t15 => ?_)
    · refine CW.skip ?_
      refine QE.next ?_
      refine CW.seq ?_
      refine CW.block ?_
      refine CW.seq ?_
      have hlci := hlc i
      refine CW.region ?_
      refine WP.s .n (O.ix i rfl rfl Try.underlying67 ty27 rfl (v := (a.getD i [])) (gd [] (by first | omega | (have h1 := hQ i (by omega); have h2 := hQ k (by omega); omega)))) ?_
      refine WP.s .n (O.ldP rfl ty27) ?_
      refine WP.s .n (O.asg rfl) ?_
      refine WP.nil ?_
      refine QE.next ?_
      refine CW.seq ?_
      refine CW.region ?_
      refine WP.s .n (O.mv rfl) ?_
      refine WP.s .n (O.lenS rfl Try.underlying27) ?_
      refine WP.s .n (O.gt rfl rfl) ?_
      refine WP.s .n (O.mv rfl) ?_
      refine WP.splitD 21 rfl (fun h_t21 => ?_) (fun h_t21 => ?_)
      · refine WP.ku (b := true) rfl rfl ?_
        refine WP.ku (b := true) rfl rfl ?_
        refine WP.ku (b := true) rfl rfl ?_
        refine WP.ku (b := true) rfl rfl ?_
        refine WP.s .n (O.pickT rfl rfl) ?_
        refine WP.nil ?_
        refine QE.next ?_
        refine CW.condT rfl ?_
        refine CW.seq ?_
        refine CW.region ?_
        refine WP.s .n (O.asg rfl) ?_
        refine WP.nil ?_
        refine QE.next ?_
        refine CW.ret ?_
        refine QE.blkR ?_
        refine QE.thenR ?_
        refine QE.thenR ?_
        refine QE.blkR ?_
        refine QE.thenR ?_
        refine ST.told 2 rfl (is_eq (y := (qshape a)) (qshape_1 (big_row (i := i) (by omega) (by omega))).symm) ?_
        exact QE.done (.inl rfl) rfl (ResOk.t rfl ResOk.nil) (OImp.sub (List.nil_sublist _)) ⟨rfl, rfl⟩
      · refine WP.s (.g rfl rfl) (O.mv rfl) ?_
        refine WP.s (.g rfl rfl) (O.bs Try.underlying67 el27_sl_Z (evl.c rfl evl.n) rfl (by decide)) ?_
        refine WP.s (.g rfl rfl) (O.fn fn174 (evs.c rfl evs.nil) (c_mat_Bits [(a.getD i [])])) ?_
        refine WP.s (.g rfl rfl) (O.gt rfl rfl) ?_
        refine WP.s .n (O.pickF rfl rfl) ?_
        refine WP.nil ?_
        refine QE.next ?_
        refine CW.condD rfl (fun h_t26 => ?_) (fun h_t26 => ?_)
        · refine CW.seq ?_
          refine CW.region ?_
          refine WP.s .n (O.asg rfl) ?_
          refine WP.nil ?_
          refine QE.next ?_
          refine CW.ret ?_
          refine QE.blkR ?_
          refine QE.thenR ?_
          refine QE.thenR ?_
          refine QE.blkR ?_
          refine QE.thenR ?_
          refine ST.told 2 rfl (is_eq (y := (qshape a)) (qshape_1 (big_bits (i := i) (by omega) (by omega))).symm) ?_
          exact QE.done (.inl rfl) rfl (ResOk.t rfl ResOk.nil) (OImp.sub (List.nil_sublist _)) ⟨rfl, rfl⟩
        · refine CW.skip ?_
          refine QE.blkN ?_
          refine QE.next ?_
          refine CW.region ?_
          refine WP.s .n (O.add rfl rfl (c := ((i : Int) + 1)) (w64 (by omega))) ?_
          refine WP.s .n (O.mv rfl) ?_
          refine WP.nil ?_
          exact QE.round (i + 1) (by omega) ⟨by omega, rowsTo_next hA (by omega) (by omega)⟩ (Imp.cons rfl (Imp.cons rfl (Imp.cons rfl (Imp.consLe rfl (is_eq (y := (((i + 1) : Nat) : Int)) (by first | rfl | omega | assumption)) Imp.nil)))) (OImp.refl _)
    · refine CW.exit ?_
      refine QE.thenE ?_
      refine QE.thenE ?_
      refine QE.blkH ?_
      refine QE.next ?_
      refine CW.seq ?_
      refine CW.seq ?_
      have hno := rowsTo_end h_t11 (by rw [show i = a.length by omega] at hA; exact hA)
      refine CW.region ?_
      refine WP.s .n (O.mv rfl) ?_
      refine WP.s .n (O.lenS rfl Try.underlying67) ?_
      refine WP.s .n (O.eq rfl rfl) ?_
      refine WP.nil ?_
      refine QE.next ?_
      refine CW.condD rfl (fun h_t30 => ?_) (fun h_t30 => ?_)
      · refine CW.seq ?_
        refine CW.region ?_
        refine WP.s .n (O.asg rfl) ?_
        refine WP.nil ?_
        refine QE.next ?_
        refine CW.ret ?_
        refine QE.thenR ?_
        refine ST.told 2 rfl (is_eq (y := (qshape a)) (qshape_2 hno (by omega)).symm) ?_
        exact QE.done (.inl rfl) rfl (ResOk.t rfl ResOk.nil) (OImp.sub (List.nil_sublist _)) ⟨rfl, rfl⟩
      · refine CW.skip ?_
        refine QE.next ?_
        refine CW.seq ?_
        refine CW.seq ?_
        refine CW.region ?_
        refine WP.s .n (O.mv rfl) ?_
        refine WP.s .n (O.lenS rfl Try.underlying67) ?_
        refine WP.s .n (O.mv rfl) ?_
        refine WP.nil ?_
        refine QE.next ?_
        refine CW.block ?_
        refine CW.loop (fun (j : Nat) => j ≤ a.length ∧ ∀ l, l < j → (a.getD l []).length = a.length) (fun (j : Nat) => [(0, (kSl (kSl kZ)).is a), (31, (kSl (kSl kZ)).is a), (32, (kInt .i64).is (a.length : Int)), (33, (kInt .i64).is (j : Int))]) (fun (j : Nat) => []) (fun (j : Nat) => a.length - j) 0 ⟨Nat.zero_le _, fun l hl => absurd hl (by omega)⟩ (Imp.cons rfl (Imp.cons rfl (Imp.cons rfl (Imp.consLe rfl (is_eq (y := (0 : Int)) (by first | rfl | omega | assumption)) Imp.nil)))) (OImp.refl _) ?_
        intro j ⟨hj, hQ⟩
        refine CW.seq ?_
        refine CW.region ?_
        refine WP.s .n (O.lt rfl rfl) ?_
        refine WP.nil ?_
        refine QE.next ?_
        refine CW.seq ?_
        refine CW.condD rfl (fun h_t34 => ?_) (fun h_t34 => ?_)
        · refine CW.skip ?_
          refine QE.next ?_
          refine CW.seq ?_
          refine CW.block ?_
          refine CW.seq ?_
          refine CW.region ?_
          refine WP.s .n (O.ix j rfl rfl Try.underlying67 ty27 rfl (v := (a.getD j [])) (gd [] (by first | omega | (have h1 := hQ i (by omega); have h2 := hQ k (by omega); omega)))) ?_
          refine WP.s .n (O.ldP rfl ty27) ?_
          refine WP.s .n (O.asg rfl) ?_
          refine WP.nil ?_
          refine QE.next ?_
          refine CW.seq ?_
          refine CW.region ?_
          refine WP.s .n (O.mv rfl) ?_
          refine WP.s .n (O.lenS rfl Try.underlying27) ?_
          refine WP.s .n (O.mv rfl) ?_
          refine WP.s .n (O.lenS rfl Try.underlying67) ?_
          refine WP.s .n (O.ne rfl rfl) ?_
          refine WP.nil ?_
          refine QE.next ?_
          refine CW.condD rfl (fun h_t41 => ?_) (fun h_t41 => ?_)
          · refine CW.seq ?_
            refine CW.region ?_
            refine WP.s .n (O.asg rfl) ?_
            refine WP.nil ?_
            refine QE.next ?_
            refine CW.ret ?_
            refine QE.blkR ?_
            refine QE.thenR ?_
            refine QE.thenR ?_
            refine QE.blkR ?_
            refine QE.thenR ?_
            refine ST.told 2 rfl (is_eq (y := (qshape a)) (qshape_3 hno (by omega) (not_sq (i := j) (by omega) (by omega))).symm) ?_
            exact QE.done (.inl rfl) rfl (ResOk.t rfl ResOk.nil) (OImp.sub (List.nil_sublist _)) ⟨rfl, rfl⟩
          · refine CW.skip ?_
            refine QE.blkN ?_
            refine QE.next ?_
            refine CW.region ?_
            refine WP.s .n (O.add rfl rfl (c := ((j : Int) + 1)) (w64 (by omega))) ?_
            refine WP.s .n (O.mv rfl) ?_
            refine WP.nil ?_
            exact QE.round (j + 1) (by omega) ⟨by omega, fun l hl => if e : l = j then by subst e; omega else hQ l (by omega)⟩ (Imp.cons rfl (Imp.cons rfl (Imp.cons rfl (Imp.consLe rfl (is_eq (y := (((j + 1) : Nat) : Int)) (by first | rfl | omega | assumption)) Imp.nil)))) (OImp.refl _)
        · refine CW.exit ?_
          refine QE.thenE ?_
          refine QE.thenE ?_
          refine QE.blkH ?_
          refine QE.next ?_
          refine CW.seq ?_
          refine CW.seq ?_
          have hsq := sqN_iff.2 (fun l hl => hQ l (by omega))
          refine CW.region ?_
          refine WP.s .n (O.mv rfl) ?_
          refine WP.s .n (O.lenS rfl Try.underlying67) ?_
          refine WP.s .n (O.mv rfl) ?_
          refine WP.nil ?_
          refine QE.next ?_
          refine CW.block ?_
          refine CW.loop (fun (i : Nat) => i ≤ a.length ∧ ∀ x, x < i → ∀ y, y < x → matF a x y = matF a y x) (fun (i : Nat) => [(0, (kSl (kSl kZ)).is a), (44, (kInt .i64).is (a.length : Int)), (45, (kInt .i64).is (i : Int))]) (fun (i : Nat) => []) (fun (i : Nat) => a.length - i) 0 ⟨Nat.zero_le _, fun l hl => absurd hl (by omega)⟩ (Imp.cons rfl (Imp.cons rfl (Imp.consLe rfl (is_eq (y := (0 : Int)) (by first | rfl | omega | assumption)) Imp.nil))) (OImp.refl _) ?_
          intro i ⟨hi, hS⟩
          refine CW.seq ?_
          refine CW.region ?_
          refine WP.s .n (O.lt rfl rfl) ?_
          refine WP.nil ?_
          refine QE.next ?_
          refine CW.seq ?_
          refine CW.condD rfl (fun h_t46 => ?_) (fun h_t46 => ?_)
          · refine CW.skip ?_
            refine QE.next ?_
            refine CW.seq ?_
            refine CW.block ?_
            refine CW.seq ?_
            refine CW.region ?_
            refine WP.s .n (O.mv rfl) ?_
            refine WP.s .n (O.asg rfl) ?_
            refine WP.nil ?_
            refine QE.next ?_
            refine CW.seq ?_
            refine CW.region ?_
            refine WP.s .n (O.mv rfl) ?_
            refine WP.s .n (O.mv rfl) ?_
            refine WP.nil ?_
            refine QE.next ?_
            refine CW.block ?_
            refine CW.loop (fun (k : Nat) => k ≤ i ∧ ∀ y, y < k → matF a i y = matF a y i) (fun (k : Nat) => [(0, (kSl (kSl kZ)).is a), (7, (kInt .i64).is (i : Int)), (44, (kInt .i64).is (a.length : Int)), (45, (kInt .i64).is (i : Int)), (48, (kInt .i64).is (i : Int)), (49, (kInt .i64).is (k : Int))]) (fun (k : Nat) => []) (fun (k : Nat) => i - k) 0 ⟨Nat.zero_le _, fun l hl => absurd hl (by omega)⟩ (Imp.cons rfl (Imp.cons rfl (Imp.cons rfl (Imp.cons rfl (Imp.cons rfl (Imp.consLe rfl (is_eq (y := (0 : Int)) (by first | rfl | omega | assumption)) Imp.nil)))))) (OImp.refl _) ?_
            intro k ⟨hk, hK⟩
            refine CW.seq ?_
            refine CW.region ?_
            refine WP.s .n (O.lt rfl rfl) ?_
            refine WP.nil ?_
            refine QE.next ?_
            refine CW.seq ?_
            refine CW.condD rfl (fun h_t50 => ?_) (fun h_t50 => ?_)
            · refine CW.skip ?_
              refine QE.next ?_
              refine CW.seq ?_
              refine CW.block ?_
              refine CW.seq ?_
              refine CW.region ?_
              refine WP.s .n (O.mv rfl) ?_
              refine WP.s .n (O.asg rfl) ?_
              refine WP.nil ?_
              refine QE.next ?_
              refine CW.seq ?_
              refine CW.draw (Γ := [.fr ((kSl (kSl kZ)).is a), .fr ((kInt .i64).is (i : Int)), .fr (VP.pim (kSl kZ) (a.getD i [])), .fr ((kSl kZ).is (a.getD i [])), .fr ((kInt .i64).is (k : Int)), .fr (VP.pim kZ ((a.getD i []).getD k 0)), .fr (kZ.is ((a.getD i []).getD k 0)), .fr ((kSl (kSl kZ)).is a), .fr ((kInt .i64).is (k : Int)), .fr (VP.pim (kSl kZ) (a.getD k [])), .fr ((kSl kZ).is (a.getD k [])), .fr ((kInt .i64).is (i : Int)), .fr (VP.pim kZ ((a.getD k []).getD i 0)), .fr (kZ.is ((a.getD k []).getD i 0)), .fr ((kInt .i64).is ((((a.getD i []).getD k 0) - ((a.getD k []).getD i 0)).sign)), .fr (kBool.is (decide (((((a.getD i []).getD k 0) - ((a.getD k []).getD i 0)).sign) ≠ 0)))]) (lates := [false, false, false, false, false, false, false, false, false, false, false, false, false, false, false, false]) (by kernel_rfl) (Chk.of rfl (by kernel_rfl) rfl) (fun _ _ _ _ _ h => h) (fun q_ x_ h_ => ?_) (fun σ1 => ?_)
              · match q_, h_ with
                | 0, h_ => cases h_; exact Ob.f rfl .n fun N => (O.mv rfl)
                | 1, h_ => cases h_; exact Ob.f rfl .n fun N => (O.mv rfl)
                | 2, h_ => cases h_; exact Ob.f rfl .n fun N => (O.ix i rfl rfl Try.underlying67 ty27 rfl (v := (a.getD i [])) (gd [] (by first | omega | (have h1 := hQ i (by omega); have h2 := hQ k (by omega); omega))))
                | 3, h_ => cases h_; exact Ob.f rfl .n fun N => (O.ldP rfl ty27)
                | 4, h_ => cases h_; exact Ob.f rfl .n fun N => (O.mv rfl)
                | 5, h_ => cases h_; exact Ob.f rfl .n fun N => (O.ix k rfl rfl Try.underlying27 ty31 rfl (v := ((a.getD i []).getD k 0)) (gd 0 (by first | omega | (have h1 := hQ i (by omega); have h2 := hQ k (by omega); omega))))
                | 6, h_ => cases h_; exact Ob.f rfl .n fun N => (O.ldP rfl ty31)
                | 7, h_ => cases h_; exact Ob.f rfl .n fun N => (O.mv rfl)
                | 8, h_ => cases h_; exact Ob.f rfl .n fun N => (O.mv rfl)
                | 9, h_ => cases h_; exact Ob.f rfl .n fun N => (O.ix k rfl rfl Try.underlying67 ty27 rfl (v := (a.getD k [])) (gd [] (by first | omega | (have h1 := hQ i (by omega); have h2 := hQ k (by omega); omega))))
                | 10, h_ => cases h_; exact Ob.f rfl .n fun N => (O.ldP rfl ty27)
                | 11, h_ => cases h_; exact Ob.f rfl .n fun N => (O.mv rfl)
                | 12, h_ => cases h_; exact Ob.f rfl .n fun N => (O.ix i rfl rfl Try.underlying27 ty31 rfl (v := ((a.getD k []).getD i 0)) (gd 0 (by first | omega | (have h1 := hQ i (by omega); have h2 := hQ k (by omega); omega))))
                | 13, h_ => cases h_; exact Ob.f rfl .n fun N => (O.ldP rfl ty31)
                | 14, h_ => cases h_; exact Ob.f rfl .n fun N => (O.fn fn75 (evs.c rfl (evs.c rfl evs.nil)) (c_zint_Compare ((a.getD i []).getD k 0) ((a.getD k []).getD i 0)))
                | 15, h_ => cases h_; exact Ob.f rfl .n fun N => (O.ne rfl rfl)
                | n_ + 16, h_ => simp at h_
              refine WP.nil ?_
              refine QE.next ?_
              refine CW.condD rfl (fun h_t67 => ?_) (fun h_t67 => ?_)
              · refine CW.seq ?_
                refine CW.region ?_
                refine WP.s .n (O.asg rfl) ?_
                refine WP.nil ?_
                refine QE.next ?_
                refine CW.ret ?_
                refine QE.blkR ?_
                refine QE.thenR ?_
                refine QE.thenR ?_
                refine QE.blkR ?_
                refine QE.blkR ?_
                refine QE.thenR ?_
                refine QE.thenR ?_
                refine QE.blkR ?_
                refine QE.thenR ?_
                refine ST.told 2 rfl (is_eq (y := (qshape a)) (qshape_4 hno (by omega) hsq (not_sym (i := i) (k := k) (by omega) (by omega) h_t67)).symm) ?_
                exact QE.done (.inl rfl) rfl (ResOk.t rfl ResOk.nil) (OImp.sub (List.nil_sublist _)) ⟨rfl, rfl⟩
              · refine CW.skip ?_
                refine QE.blkN ?_
                refine QE.next ?_
                refine CW.region ?_
                refine WP.s .n (O.add rfl rfl (c := ((k : Int) + 1)) (w64 (by omega))) ?_
                refine WP.s .n (O.mv rfl) ?_
                refine WP.nil ?_
                exact QE.round (k + 1) (by omega) ⟨by omega, fun y hy => if e : y = k then by subst e; exact sgn0.1 (Classical.byContradiction fun h => h_t67 h) else hK y (by omega)⟩ (Imp.cons rfl (Imp.cons rfl (Imp.cons rfl (Imp.cons rfl (Imp.cons rfl (Imp.consLe rfl (is_eq (y := (((k + 1) : Nat) : Int)) (by first | rfl | omega | assumption)) Imp.nil)))))) (OImp.refl _)
            · refine CW.exit ?_
              refine QE.thenE ?_
              refine QE.thenE ?_
              refine QE.blkH ?_
              refine QE.blkN ?_
              refine QE.next ?_
              refine CW.region ?_
              refine WP.s .n (O.add rfl rfl (c := ((i : Int) + 1)) (w64 (by omega))) ?_
              refine WP.s .n (O.mv rfl) ?_
              refine WP.nil ?_
              exact QE.round (i + 1) (by omega) ⟨by omega, fun x hx => if e : x = i then by subst e; exact fun y hy => hK y (by omega) else hS x (by omega)⟩ (Imp.cons rfl (Imp.cons rfl (Imp.consLe rfl (is_eq (y := (((i + 1) : Nat) : Int)) (by first | rfl | omega | assumption)) Imp.nil))) (OImp.refl _)
          · refine CW.exit ?_
            refine QE.thenE ?_
            refine QE.thenE ?_
            refine QE.blkH ?_
            refine QE.next ?_
            refine CW.seq ?_
            refine CW.region ?_
            refine WP.s .n (O.asg rfl) ?_
            refine WP.nil ?_
            refine QE.next ?_
            refine CW.ret ?_
            refine ST.told 2 rfl (is_eq (y := (qshape a)) (qshape_5 hno (by omega) hsq (symB_iff.2 (fun x hx => hS x (by omega)))).symm) ?_
            exact QE.done (.inl rfl) rfl (ResOk.t rfl ResOk.nil) (OImp.sub (List.nil_sublist _)) ⟨rfl, rfl⟩

set_option maxRecDepth 20000 in
set_option maxHeartbeats 1000000 in
theorem c_quad_data (n : Nat) (a : List (List Int)) (ha : SzM n a) (hq : ∀ i, i < a.length → (a.getD i []).length = a.length) (hs : SymG (matF a)) (hl : a.length ≤ 12) (hn : n ≤ 4194304) : Fn Try.prog 113 [(kSl (kSl kZ)).is a] (VP.tup [(kPair (kSl kC) (kSl (kSl kC))).is (gsoV (matF a) a.length), kBool.is (gOk (matF a) a.length)]) := by
  refine Con.enter Try.func113 rfl rfl fun m w => ?_
  refine ST.fact (i := 0) rfl sl_len fun hB => ?_
  refine ST.fact (i := 0) rfl slsl_len fun hlc => ?_
  have hz : ∀ i j, Sz (n + n + 12) (matF a i j) := fun i j => (matF_Sz ha i j).up (by omega)
  have hU : ∀ k, k ≤ 12 → szU (n + n + 12) k ≤ 34359902208 := fun k hk => by have := szU_le (n + n + 12) hk; omega
  refine CW.seq ?_
  refine CW.region ?_
  refine WP.al .n z93_pr_sl_C_sl_sl_C_ fun b1 => ?_
  refine WP.s .n (O.asg rfl) ?_
  refine WP.nil ?_
  refine QE.next ?_
  refine CW.seq ?_
  refine CW.region ?_
  refine WP.s .n (O.fn fn74 (evs.l rfl (i64_int (by omega)) evs.nil) (c_zint_Of 1)) ?_
  refine WP.bso .n Try.underlying27 el31_C (evl.c rfl evl.n) rfl (by decide) fun v2 => ?_
  refine ST.rowcell 0 rfl fun hcell_ => ?_
  refine WP.s .n (O.bld lit93_pr_val_val_ rfl (evp.l rfl (ex_val (by first | rfl | assumption)) evp.n) (.cons rfl (Lens.fst (Lens.id _)) (.nil _))) ?_
  refine WP.al .n z93_pr_val_val_ fun b3 => ?_
  refine WP.t .n (O.stW (l := (kPair kVal kVal)) (u := (v2, (.slice none 0 0))) 0 rfl rfl rfl ty93 rfl (VP.le_refl _)) ?_
  refine WP.nil ?_
  refine QE.next ?_
  refine CW.seq ?_
  refine CW.seq ?_
  refine CW.region ?_
  refine WP.s .n (O.mv rfl) ?_
  refine WP.s .n (O.lenS rfl Try.underlying67) ?_
  refine WP.s .n (O.mv rfl) ?_
  refine WP.nil ?_
  refine QE.next ?_
  refine CW.block ?_
  refine ST.nilrow 27 (kSl kC) ?_
  refine CW.loop3 (fun (i : Nat) (vD : Value) (vL : Value) => i ≤ a.length ∧ PosU (matF a) i) (fun (i : Nat) (vD : Value) (vL : Value) => [(0, (kSl (kSl kZ)).is a), (2, VP.ex (.pointer (some ⟨b1, 0, none⟩))), (3, kBool.is false), (4, VP.ex (.pointer (some ⟨b3, 0, none⟩))), (16, (kInt .i64).is (a.length : Int)), (17, (kInt .i64).is (i : Int))]) (fun (i : Nat) (vD : Value) (vL : Value) => [OB.row vL 27 (kSl kC) (gLs (matF a) i), OB.box b3 93 (kPair kVal kVal) (vD, vL), OB.row vD 31 kC (gDs (matF a) i), OB.box b1 93 (kPair (kSl kC) (kSl (kSl kC))) ([], [])]) (fun (i : Nat) (vD : Value) (vL : Value) => a.length - i) 0 v2 (.slice none 0 0) ⟨Nat.zero_le _, fun l hl => absurd hl (by omega)⟩ (Imp.cons rfl (Imp.cons rfl (Imp.cons rfl (Imp.cons rfl (Imp.cons rfl (Imp.consLe rfl (is_eq (y := (0 : Int)) (by first | rfl | omega | assumption)) Imp.nil)))))) (OImp.os (OS.keepLe (OB.row_eq (by first | rfl | omega | assumption)) (OS.keep (OS.keepLe (OB.row_eq (by first | rfl | omega | assumption)) (OS.keep OS.nil))))) ?_
  intro i vD vL ⟨hi, hP⟩
  refine CW.seq ?_
  refine CW.region ?_
  refine WP.s .n (O.lt rfl rfl) ?_
  refine WP.nil ?_
  refine QE.next ?_
  refine CW.seq ?_
  refine CW.condD rfl (fun h_t18 => ?_) (fun h_t18 => ?_)
  · refine CW.skip ?_
    refine QE.next ?_
    refine CW.seq ?_
    refine CW.block ?_
    refine CW.seq ?_
    refine CW.region ?_
    refine WP.s .n (O.mv rfl) ?_
    refine WP.s .n (O.asg rfl) ?_
    refine WP.nil ?_
    refine QE.next ?_
    refine CW.seq ?_
    refine CW.region ?_
    refine WP.s .n (O.asg rfl) ?_
    refine WP.nil ?_
    refine QE.next ?_
    refine CW.seq ?_
    refine CW.seq ?_
    refine CW.region ?_
    refine WP.s .n (O.asg rfl) ?_
    refine WP.nil ?_
    refine QE.next ?_
    refine CW.block ?_
    refine ST.nilrow 31 kC ?_
    refine CW.loop2 (fun (j : Nat) (v : Value) => j ≤ i + 1) (fun (j : Nat) (v : Value) => [(0, (kSl (kSl kZ)).is a), (2, VP.ex (.pointer (some ⟨b1, 0, none⟩))), (3, kBool.is false), (4, VP.ex (.pointer (some ⟨b3, 0, none⟩))), (5, (kInt .i64).is (i : Int)), (6, VP.ex v), (7, (kInt .i64).is (j : Int)), (16, (kInt .i64).is (a.length : Int)), (17, (kInt .i64).is (i : Int))]) (fun (j : Nat) (v : Value) => [OB.row v 31 kC (gRow (matF a) i j), OB.row vL 27 (kSl kC) (gLs (matF a) i), OB.box b3 93 (kPair kVal kVal) (vD, vL), OB.row vD 31 kC (gDs (matF a) i), OB.box b1 93 (kPair (kSl kC) (kSl (kSl kC))) ([], [])]) (fun (j : Nat) (v : Value) => i + 1 - j) 0 (.slice none 0 0) (by omega) (Imp.cons rfl (Imp.cons rfl (Imp.cons rfl (Imp.cons rfl (Imp.cons rfl (Imp.cons rfl (Imp.consLe rfl (is_eq (y := (0 : Int)) (by first | rfl | omega | assumption)) (Imp.cons rfl (Imp.cons rfl Imp.nil))))))))) (OImp.os (OS.keepLe (OB.row_eq (by first | rfl | omega | assumption)) (OS.keep (OS.keep (OS.keep (OS.keep OS.nil)))))) ?_
    intro j v hj
    refine CW.seq ?_
    refine CW.seq ?_
    refine CW.region ?_
    refine WP.s .n (O.mv rfl) ?_
    refine WP.s .n (O.mv rfl) ?_
    refine WP.s .n (O.le rfl rfl) ?_
    refine WP.nil ?_
    refine QE.next ?_
    refine CW.condD rfl (fun h_t22 => ?_) (fun h_t22 => ?_)
    · refine CW.skip ?_
      refine QE.next ?_
      refine CW.seq ?_
      refine CW.block ?_
      refine CW.seq ?_
      refine CW.region ?_
      refine WP.s .n (O.mv rfl) ?_
      refine WP.s .n (O.mv rfl) ?_
      refine WP.s .n (O.ix i rfl rfl Try.underlying67 ty27 rfl (v := (a.getD i [])) (gd [] (by first | omega | (simp only [gRow_len, gDs_len, gLs_len]; omega) | (have := hq i (by omega); omega)))) ?_
      refine WP.s .n (O.ldP rfl ty27) ?_
      refine WP.s .n (O.mv rfl) ?_
      refine WP.s .n (O.ix j rfl rfl Try.underlying27 ty31 rfl (v := ((a.getD i []).getD j 0)) (gd 0 (by first | omega | (simp only [gRow_len, gDs_len, gLs_len]; omega) | (have := hq i (by omega); omega)))) ?_
      refine WP.s .n (O.ldP rfl ty31) ?_
      refine WP.s .n (O.fn fn146 (evs.c rfl evs.nil) (c_zint_Form ((a.getD i []).getD j 0))) ?_
      refine WP.al .n z31_C fun b4 => ?_
      refine WP.t .n (O.stW (l := kC) (u := ((a.getD i []).getD j 0)) 0 rfl rfl rfl ty31 rfl (VP.le_refl _)) ?_
      refine WP.nil ?_
      refine QE.next ?_
      refine CW.seq ?_
      refine CW.seq ?_
      refine CW.region ?_
      refine WP.s .n (O.mv rfl) ?_
      refine WP.s .n (O.mv rfl) ?_
      refine WP.nil ?_
      refine QE.next ?_
      refine CW.block ?_
      refine CW.loop2 (fun (k : Nat) (p : Nat) => k ≤ j) (fun (k : Nat) (p : Nat) => [(0, (kSl (kSl kZ)).is a), (2, VP.ex (.pointer (some ⟨b1, 0, none⟩))), (3, kBool.is false), (4, VP.ex (.pointer (some ⟨b3, 0, none⟩))), (5, (kInt .i64).is (i : Int)), (6, VP.ex v), (7, (kInt .i64).is (j : Int)), (8, VP.ex (.pointer (some ⟨p, 0, none⟩))), (33, (kInt .i64).is (j : Int)), (34, (kInt .i64).is (k : Int)), (16, (kInt .i64).is (a.length : Int)), (17, (kInt .i64).is (i : Int))]) (fun (k : Nat) (p : Nat) => [OB.box p 31 kC (uE (matF a) k i j), OB.row v 31 kC (gRow (matF a) i j), OB.row vL 27 (kSl kC) (gLs (matF a) i), OB.box b3 93 (kPair kVal kVal) (vD, vL), OB.row vD 31 kC (gDs (matF a) i), OB.box b1 93 (kPair (kSl kC) (kSl (kSl kC))) ([], [])]) (fun (k : Nat) (p : Nat) => j - k) 0 b4 (by omega) (Imp.cons rfl (Imp.cons rfl (Imp.cons rfl (Imp.cons rfl (Imp.cons rfl (Imp.cons rfl (Imp.cons rfl (Imp.cons rfl (Imp.cons rfl (Imp.consLe rfl (is_eq (y := (0 : Int)) (by first | rfl | omega | assumption)) (Imp.cons rfl (Imp.cons rfl Imp.nil)))))))))))) (OImp.os (OS.keepLe (OB.box_eq (by first | rfl | omega | assumption)) (OS.keep (OS.keep (OS.keep (OS.keep (OS.keep OS.nil))))))) ?_
      intro k p hk
      refine CW.seq ?_
      refine CW.region ?_
      refine WP.s .n (O.lt rfl rfl) ?_
      refine WP.nil ?_
      refine QE.next ?_
      refine CW.seq ?_
      refine CW.condD rfl (fun h_t35 => ?_) (fun h_t35 => ?_)
      · refine CW.skip ?_
        refine QE.next ?_
        refine CW.seq ?_
        refine CW.block ?_
        refine CW.seq ?_
        have hE := uE_Sz hs hz hP
        have hD := uD_Sz hs hz hP
        have hUk := hU k (by omega)
        refine CW.region ?_
        refine WP.s .n (O.mv rfl) ?_
        refine WP.s .n (O.asg rfl) ?_
        refine WP.nil ?_
        refine QE.next ?_
        refine CW.seq ?_
        refine CW.region ?_
        refine WP.s .n (O.mv rfl) ?_
        refine WP.s .n (O.asg rfl) ?_
        refine WP.nil ?_
        refine QE.next ?_
        refine CW.seq ?_
        refine CW.seq ?_
        refine CW.region ?_
        refine WP.s .n (O.mv rfl) ?_
        refine WP.s .n (O.mv rfl) ?_
        refine WP.s .n (O.lt rfl rfl) ?_
        refine WP.nil ?_
        refine QE.next ?_
        refine CW.condD rfl (fun h_t40 => ?_) (fun h_t40 => ?_)
        · refine CW.region ?_
          refine WP.s .n (O.fa rfl fld93_1 rfl) ?_
          refine WP.s .n (OpOk.le (O.ld (p := kVal.is vL) rfl (mem_at 3 rfl) (Lens.snd (Lens.id _)) ty67 rfl) (val_ex _)) ?_
          refine WP.s .n (O.mv rfl) ?_
          refine WP.s .n (O.ixR (k := (kSl kC)) (xs := (gLs (matF a) i)) (n := (j : Int)) j rfl rfl (mem_at 2 rfl) Try.underlying67 ty27 rfl (by first | omega | (simp only [gRow_len, gDs_len, gLs_len]; omega) | (have := hq i (by omega); omega))) ?_
          refine WP.s .n (O.ldR j rfl (mem_at 2 rfl) (Lens.id _) rfl (y := ((gLs (matF a) i).getD j [])) (gd [] (by first | omega | (simp only [gRow_len, gDs_len, gLs_len]; omega) | (have := hq i (by omega); omega))) ty27 rfl) ?_
          refine WP.s .n (O.asg rfl) ?_
          refine WP.nil ?_
          refine QE.next ?_
          refine CW.seq ?_
          refine CW.draw (Γ := [.fr (VP.ex (.pointer (some ⟨b3, 0, none⟩))), .fr (VP.ex vD), .fr ((kInt .i64).is (k : Int)), .fr ((kInt .i64).is ((k : Int) + 1)), .fr (VP.pel vD ((((k : Int) + 1)).toNat * 2)), .fr (kC.is (uD (matF a) (k + 1))), .fr (kC.is (uE (matF a) k i j)), .fr (kC.is ((uD (matF a) (k + 1)) * (uE (matF a) k i j))), .fr (VP.ex v), .fr ((kInt .i64).is (k : Int)), .fr (VP.pel v (k * 2)), .fr (kC.is (uE (matF a) k i k)), .fr ((kSl kC).is ((gLs (matF a) i).getD j [])), .fr ((kInt .i64).is (k : Int)), .fr (VP.pim kC (uE (matF a) k j k)), .fr (kC.is (uE (matF a) k j k)), .fr (kC.is ((uE (matF a) k i k) * (uE (matF a) k j k))), .fr (kC.is (((uD (matF a) (k + 1)) * (uE (matF a) k i j)) - ((uE (matF a) k i k) * (uE (matF a) k j k)))), .al (fun b => OB.box b 31 kC 0)]) (lates := [false, false, false, false, false, false, false, false, false, false, false, false, false, false, false, false, false, false, false]) (by kernel_rfl) (Chk.of rfl (by kernel_rfl) rfl) (fun _ _ _ _ _ h => h) (fun q_ x_ h_ => ?_) (fun σ1 => ?_)
          · match q_, h_ with
            | 0, h_ => cases h_; exact Ob.f rfl .n fun N => (O.fa rfl fld93_0 rfl)
            | 1, h_ => cases h_; exact Ob.f rfl .n fun N => (OpOk.le (O.ld (p := kVal.is vD) rfl (mem_app N (mem_at 3 rfl)) (Lens.fst (Lens.id _)) ty27 rfl) (val_ex _))
            | 2, h_ => cases h_; exact Ob.f rfl .n fun N => (O.mv rfl)
            | 3, h_ => cases h_; exact Ob.f rfl .n fun N => (O.add rfl rfl (c := ((k : Int) + 1)) (w64 (by omega)))
            | 4, h_ => cases h_; exact Ob.f rfl .n fun N => (O.ixR (k := kC) (xs := (gDs (matF a) i)) (n := ((k : Int) + 1)) ((((k : Int) + 1)).toNat) rfl rfl (mem_app N (mem_at 4 rfl)) Try.underlying27 ty31 (by omega) (by first | omega | (simp only [gRow_len, gDs_len, gLs_len]; omega) | (have := hq i (by omega); omega)))
            | 5, h_ => cases h_; exact Ob.f rfl .n fun N => (O.ldR (k := kC) (xs := (gDs (matF a) i)) ((((k : Int) + 1)).toNat) rfl (mem_app N (mem_at 4 rfl)) (Lens.id _) (ho := rfl) (y := (uD (matF a) (k + 1))) (gDs_at (by omega)) ty31 rfl)
            | 6, h_ => cases h_; exact Ob.f rfl .n fun N => (O.ld rfl (mem_app N (mem_at 0 rfl)) (Lens.id _) ty31 rfl)
            | 7, h_ => cases h_; exact Ob.f rfl .n fun N => (O.fn fn76 (evs.l rfl (kC_Z (by first | assumption | exact (hE k (by omega) i j (by omega) (by omega)).sm (by omega) | exact (hE k (by omega) k k (by omega) (by omega)).sm (by omega) | exact (hE k (by omega) i k (by omega) (by omega)).sm (by omega) | exact (hE k (by omega) j k (by omega) (by omega)).sm (by omega) | exact (hE i (by omega) i i (by omega) (by omega)).sm (by omega) | exact (hD k (by omega)).sm (by omega) | exact (((hE k (by omega) k k (by omega) (by omega)).mul (hE k (by omega) i j (by omega) (by omega))).sub ((hE k (by omega) i k (by omega) (by omega)).mul (hE k (by omega) j k (by omega) (by omega)))).sm (by omega) | exact ((hE k (by omega) k k (by omega) (by omega)).mul (hE k (by omega) i j (by omega) (by omega))).sm (by omega) | exact ((hE k (by omega) i k (by omega) (by omega)).mul (hE k (by omega) j k (by omega) (by omega))).sm (by omega))) (evs.l rfl (kC_Z (by first | assumption | exact (hE k (by omega) i j (by omega) (by omega)).sm (by omega) | exact (hE k (by omega) k k (by omega) (by omega)).sm (by omega) | exact (hE k (by omega) i k (by omega) (by omega)).sm (by omega) | exact (hE k (by omega) j k (by omega) (by omega)).sm (by omega) | exact (hE i (by omega) i i (by omega) (by omega)).sm (by omega) | exact (hD k (by omega)).sm (by omega) | exact (((hE k (by omega) k k (by omega) (by omega)).mul (hE k (by omega) i j (by omega) (by omega))).sub ((hE k (by omega) i k (by omega) (by omega)).mul (hE k (by omega) j k (by omega) (by omega)))).sm (by omega) | exact ((hE k (by omega) k k (by omega) (by omega)).mul (hE k (by omega) i j (by omega) (by omega))).sm (by omega) | exact ((hE k (by omega) i k (by omega) (by omega)).mul (hE k (by omega) j k (by omega) (by omega))).sm (by omega))) evs.nil)) (c_zint_Mul (uD (matF a) (k + 1)) (uE (matF a) k i j)))
            | 8, h_ => cases h_; exact Ob.f rfl .n fun N => (O.mv rfl)
            | 9, h_ => cases h_; exact Ob.f rfl .n fun N => (O.mv rfl)
            | 10, h_ => cases h_; exact Ob.f rfl .n fun N => (O.ixR (k := kC) (xs := (gRow (matF a) i j)) (n := (k : Int)) k rfl rfl (mem_app N (mem_at 1 rfl)) Try.underlying27 ty31 rfl (by first | omega | (simp only [gRow_len, gDs_len, gLs_len]; omega) | (have := hq i (by omega); omega)))
            | 11, h_ => cases h_; exact Ob.f rfl .n fun N => (O.ldR (k := kC) (xs := (gRow (matF a) i j)) k rfl (mem_app N (mem_at 1 rfl)) (Lens.id _) (ho := rfl) (y := (uE (matF a) k i k)) (gRow_at (by omega)) ty31 rfl)
            | 12, h_ => cases h_; exact Ob.f rfl .n fun N => (O.mv rfl)
            | 13, h_ => cases h_; exact Ob.f rfl .n fun N => (O.mv rfl)
            | 14, h_ => cases h_; exact Ob.f rfl .n fun N => (O.ix k rfl rfl Try.underlying27 ty31 rfl (v := (uE (matF a) k j k)) (gLs_at (by omega) (by omega)))
            | 15, h_ => cases h_; exact Ob.f rfl .n fun N => (O.ldP rfl ty31)
            | 16, h_ => cases h_; exact Ob.f rfl .n fun N => (O.fn fn76 (evs.l rfl (kC_Z (by first | assumption | exact (hE k (by omega) i j (by omega) (by omega)).sm (by omega) | exact (hE k (by omega) k k (by omega) (by omega)).sm (by omega) | exact (hE k (by omega) i k (by omega) (by omega)).sm (by omega) | exact (hE k (by omega) j k (by omega) (by omega)).sm (by omega) | exact (hE i (by omega) i i (by omega) (by omega)).sm (by omega) | exact (hD k (by omega)).sm (by omega) | exact (((hE k (by omega) k k (by omega) (by omega)).mul (hE k (by omega) i j (by omega) (by omega))).sub ((hE k (by omega) i k (by omega) (by omega)).mul (hE k (by omega) j k (by omega) (by omega)))).sm (by omega) | exact ((hE k (by omega) k k (by omega) (by omega)).mul (hE k (by omega) i j (by omega) (by omega))).sm (by omega) | exact ((hE k (by omega) i k (by omega) (by omega)).mul (hE k (by omega) j k (by omega) (by omega))).sm (by omega))) (evs.l rfl (kC_Z (by first | assumption | exact (hE k (by omega) i j (by omega) (by omega)).sm (by omega) | exact (hE k (by omega) k k (by omega) (by omega)).sm (by omega) | exact (hE k (by omega) i k (by omega) (by omega)).sm (by omega) | exact (hE k (by omega) j k (by omega) (by omega)).sm (by omega) | exact (hE i (by omega) i i (by omega) (by omega)).sm (by omega) | exact (hD k (by omega)).sm (by omega) | exact (((hE k (by omega) k k (by omega) (by omega)).mul (hE k (by omega) i j (by omega) (by omega))).sub ((hE k (by omega) i k (by omega) (by omega)).mul (hE k (by omega) j k (by omega) (by omega)))).sm (by omega) | exact ((hE k (by omega) k k (by omega) (by omega)).mul (hE k (by omega) i j (by omega) (by omega))).sm (by omega) | exact ((hE k (by omega) i k (by omega) (by omega)).mul (hE k (by omega) j k (by omega) (by omega))).sm (by omega))) evs.nil)) (c_zint_Mul (uE (matF a) k i k) (uE (matF a) k j k)))
            | 17, h_ => cases h_; exact Ob.f rfl .n fun N => (O.fn fn157 (evs.l rfl (kC_Z (by first | assumption | exact (hE k (by omega) i j (by omega) (by omega)).sm (by omega) | exact (hE k (by omega) k k (by omega) (by omega)).sm (by omega) | exact (hE k (by omega) i k (by omega) (by omega)).sm (by omega) | exact (hE k (by omega) j k (by omega) (by omega)).sm (by omega) | exact (hE i (by omega) i i (by omega) (by omega)).sm (by omega) | exact (hD k (by omega)).sm (by omega) | exact (((hE k (by omega) k k (by omega) (by omega)).mul (hE k (by omega) i j (by omega) (by omega))).sub ((hE k (by omega) i k (by omega) (by omega)).mul (hE k (by omega) j k (by omega) (by omega)))).sm (by omega) | exact ((hE k (by omega) k k (by omega) (by omega)).mul (hE k (by omega) i j (by omega) (by omega))).sm (by omega) | exact ((hE k (by omega) i k (by omega) (by omega)).mul (hE k (by omega) j k (by omega) (by omega))).sm (by omega))) (evs.l rfl (kC_Z (by first | assumption | exact (hE k (by omega) i j (by omega) (by omega)).sm (by omega) | exact (hE k (by omega) k k (by omega) (by omega)).sm (by omega) | exact (hE k (by omega) i k (by omega) (by omega)).sm (by omega) | exact (hE k (by omega) j k (by omega) (by omega)).sm (by omega) | exact (hE i (by omega) i i (by omega) (by omega)).sm (by omega) | exact (hD k (by omega)).sm (by omega) | exact (((hE k (by omega) k k (by omega) (by omega)).mul (hE k (by omega) i j (by omega) (by omega))).sub ((hE k (by omega) i k (by omega) (by omega)).mul (hE k (by omega) j k (by omega) (by omega)))).sm (by omega) | exact ((hE k (by omega) k k (by omega) (by omega)).mul (hE k (by omega) i j (by omega) (by omega))).sm (by omega) | exact ((hE k (by omega) i k (by omega) (by omega)).mul (hE k (by omega) j k (by omega) (by omega))).sm (by omega))) evs.nil)) (c_zint_Sub ((uD (matF a) (k + 1)) * (uE (matF a) k i j)) ((uE (matF a) k i k) * (uE (matF a) k j k))))
            | 18, h_ => cases h_; exact Ob.a rfl z31_C
            | n_ + 19, h_ => simp at h_
          refine WP.t .n (O.stW (l := kC) (u := ((uD (matF a) (k + 1)) * (uE (matF a) k i j)) - ((uE (matF a) k i k) * (uE (matF a) k j k))) 0 rfl rfl rfl ty31 rfl (VP.le_refl _)) ?_
          refine WP.nil ?_
          refine QE.next ?_
          refine CW.draw (Γ := [.fr (kC.is (((uD (matF a) (k + 1)) * (uE (matF a) k i j)) - ((uE (matF a) k i k) * (uE (matF a) k j k)))), .fr (VP.ex (.pointer (some ⟨b3, 0, none⟩))), .fr (VP.ex vD), .fr ((kInt .i64).is (k : Int)), .fr (VP.pel vD (k * 2)), .fr (kC.is (uD (matF a) k)), .fr (VP.tup [kC.is ((((uD (matF a) (k + 1)) * (uE (matF a) k i j)) - ((uE (matF a) k i k) * (uE (matF a) k j k))).fdiv (uD (matF a) k)), kC.is (if (uD (matF a) k) = 0 then 0 else (((uD (matF a) (k + 1)) * (uE (matF a) k i j)) - ((uE (matF a) k i k) * (uE (matF a) k j k))).fmod (uD (matF a) k)), (kInt .i64).is (if (uD (matF a) k) = 0 then 11 else 0)]), .fr (VP.tup [kC.is ((((uD (matF a) (k + 1)) * (uE (matF a) k i j)) - ((uE (matF a) k i k) * (uE (matF a) k j k))).fdiv (uD (matF a) k)), kC.is (if (uD (matF a) k) = 0 then 0 else (((uD (matF a) (k + 1)) * (uE (matF a) k i j)) - ((uE (matF a) k i k) * (uE (matF a) k j k))).fmod (uD (matF a) k)), (kInt .i64).is (if (uD (matF a) k) = 0 then 11 else 0)]), .fr (kC.is ((((uD (matF a) (k + 1)) * (uE (matF a) k i j)) - ((uE (matF a) k i k) * (uE (matF a) k j k))).fdiv (uD (matF a) k))), .lt (kC.is (if (uD (matF a) k) = 0 then 0 else (((uD (matF a) (k + 1)) * (uE (matF a) k i j)) - ((uE (matF a) k i k) * (uE (matF a) k j k))).fmod (uD (matF a) k))), .lt ((kInt .i64).is (if (uD (matF a) k) = 0 then 11 else 0))]) (lates := [false, false, false, false, false, false, false, false, false, true, true]) (by kernel_rfl) (Chk.of rfl (by kernel_rfl) rfl) (fun _ _ _ _ _ h => h) (fun q_ x_ h_ => ?_) (fun σ2 => ?_)
          · match q_, h_ with
            | 0, h_ => cases h_; exact Ob.f rfl .n fun N => (O.ld rfl (mem_app N (mem_at 0 rfl)) (Lens.id _) ty31 rfl)
            | 1, h_ => cases h_; exact Ob.f rfl .n fun N => (O.fa rfl fld93_0 rfl)
            | 2, h_ => cases h_; exact Ob.f rfl .n fun N => (OpOk.le (O.ld (p := kVal.is vD) rfl (mem_app N (mem_at 4 rfl)) (Lens.fst (Lens.id _)) ty27 rfl) (val_ex _))
            | 3, h_ => cases h_; exact Ob.f rfl .n fun N => (O.mv rfl)
            | 4, h_ => cases h_; exact Ob.f rfl .n fun N => (O.ixR (k := kC) (xs := (gDs (matF a) i)) (n := (k : Int)) k rfl rfl (mem_app N (mem_at 5 rfl)) Try.underlying27 ty31 rfl (by first | omega | (simp only [gRow_len, gDs_len, gLs_len]; omega) | (have := hq i (by omega); omega)))
            | 5, h_ => cases h_; exact Ob.f rfl .n fun N => (O.ldR (k := kC) (xs := (gDs (matF a) i)) k rfl (mem_app N (mem_at 5 rfl)) (Lens.id _) (ho := rfl) (y := (uD (matF a) k)) (gDs_at (by omega)) ty31 rfl)
            | 6, h_ => cases h_; exact Ob.f rfl .n fun N => (O.fn fn105 (evs.l rfl (kC_Z (by first | assumption | exact (hE k (by omega) i j (by omega) (by omega)).sm (by omega) | exact (hE k (by omega) k k (by omega) (by omega)).sm (by omega) | exact (hE k (by omega) i k (by omega) (by omega)).sm (by omega) | exact (hE k (by omega) j k (by omega) (by omega)).sm (by omega) | exact (hE i (by omega) i i (by omega) (by omega)).sm (by omega) | exact (hD k (by omega)).sm (by omega) | exact (((hE k (by omega) k k (by omega) (by omega)).mul (hE k (by omega) i j (by omega) (by omega))).sub ((hE k (by omega) i k (by omega) (by omega)).mul (hE k (by omega) j k (by omega) (by omega)))).sm (by omega) | exact ((hE k (by omega) k k (by omega) (by omega)).mul (hE k (by omega) i j (by omega) (by omega))).sm (by omega) | exact ((hE k (by omega) i k (by omega) (by omega)).mul (hE k (by omega) j k (by omega) (by omega))).sm (by omega))) (evs.l rfl (kC_Z (by first | assumption | exact (hE k (by omega) i j (by omega) (by omega)).sm (by omega) | exact (hE k (by omega) k k (by omega) (by omega)).sm (by omega) | exact (hE k (by omega) i k (by omega) (by omega)).sm (by omega) | exact (hE k (by omega) j k (by omega) (by omega)).sm (by omega) | exact (hE i (by omega) i i (by omega) (by omega)).sm (by omega) | exact (hD k (by omega)).sm (by omega) | exact (((hE k (by omega) k k (by omega) (by omega)).mul (hE k (by omega) i j (by omega) (by omega))).sub ((hE k (by omega) i k (by omega) (by omega)).mul (hE k (by omega) j k (by omega) (by omega)))).sm (by omega) | exact ((hE k (by omega) k k (by omega) (by omega)).mul (hE k (by omega) i j (by omega) (by omega))).sm (by omega) | exact ((hE k (by omega) i k (by omega) (by omega)).mul (hE k (by omega) j k (by omega) (by omega))).sm (by omega))) evs.nil)) (c_zint_Floor (((uD (matF a) (k + 1)) * (uE (matF a) k i j)) - ((uE (matF a) k i k) * (uE (matF a) k j k))) (uD (matF a) k)))
            | 7, h_ => cases h_; exact Ob.f rfl .n fun N => (O.mv rfl)
            | 8, h_ => cases h_; exact Ob.f rfl .n fun N => (O.ext rfl rfl)
            | 9, h_ => cases h_; exact Ob.l rfl .n (OV.ext rfl rfl)
            | 10, h_ => cases h_; exact Ob.l rfl .n (OV.ext rfl rfl)
            | n_ + 11, h_ => simp at h_
          refine WP.t .n (O.stW (l := kC) (u := (((uD (matF a) (k + 1)) * (uE (matF a) k i j)) - ((uE (matF a) k i k) * (uE (matF a) k j k))).fdiv (uD (matF a) k)) 1 rfl rfl rfl ty31 rfl (VP.le_refl _)) ?_
          refine WP.nil ?_
          refine QE.blkN ?_
          refine QE.next ?_
          refine CW.region ?_
          refine WP.s .n (O.add rfl rfl (c := ((k : Int) + 1)) (w64 (by omega))) ?_
          refine WP.s .n (O.mv rfl) ?_
          refine WP.nil ?_
          refine ST.obtold 1 rfl (OB.box_eq (y := (uE (matF a) (k + 1) i j)) (uE_succ _ k i j).symm) ?_
          exact QE.round2 (k + 1) p (by omega) (by omega) (Imp.cons rfl (Imp.cons rfl (Imp.cons rfl (Imp.cons rfl (Imp.cons rfl (Imp.cons rfl (Imp.cons rfl (Imp.cons rfl (Imp.cons rfl (Imp.consLe rfl (is_eq (y := (((k + 1) : Nat) : Int)) (by first | rfl | omega | assumption)) (Imp.cons rfl (Imp.cons rfl Imp.nil)))))))))))) (OImp.os (OS.skip (OS.keep (OS.keep (OS.keep (OS.keep (OS.keep (OS.keep OS.nil))))))))
        · refine CW.skip ?_
          refine QE.next ?_
          refine CW.seq ?_
          refine CW.draw (Γ := [.fr (VP.ex (.pointer (some ⟨b3, 0, none⟩))), .fr (VP.ex vD), .fr ((kInt .i64).is (k : Int)), .fr ((kInt .i64).is ((k : Int) + 1)), .fr (VP.pel vD ((((k : Int) + 1)).toNat * 2)), .fr (kC.is (uD (matF a) (k + 1))), .fr (kC.is (uE (matF a) k i j)), .fr (kC.is ((uD (matF a) (k + 1)) * (uE (matF a) k i j))), .fr (VP.ex v), .fr ((kInt .i64).is (k : Int)), .fr (VP.pel v (k * 2)), .fr (kC.is (uE (matF a) k i k)), .fr (VP.ex v), .fr ((kInt .i64).is (k : Int)), .fr (VP.pel v (k * 2)), .fr (kC.is (uE (matF a) k j k)), .fr (kC.is ((uE (matF a) k i k) * (uE (matF a) k j k))), .fr (kC.is (((uD (matF a) (k + 1)) * (uE (matF a) k i j)) - ((uE (matF a) k i k) * (uE (matF a) k j k)))), .al (fun b => OB.box b 31 kC 0)]) (lates := [false, false, false, false, false, false, false, false, false, false, false, false, false, false, false, false, false, false, false]) (by kernel_rfl) (Chk.of rfl (by kernel_rfl) rfl) (fun _ _ _ _ _ h => h) (fun q_ x_ h_ => ?_) (fun σ3 => ?_)
          · match q_, h_ with
            | 0, h_ => cases h_; exact Ob.f rfl .n fun N => (O.fa rfl fld93_0 rfl)
            | 1, h_ => cases h_; exact Ob.f rfl .n fun N => (OpOk.le (O.ld (p := kVal.is vD) rfl (mem_app N (mem_at 3 rfl)) (Lens.fst (Lens.id _)) ty27 rfl) (val_ex _))
            | 2, h_ => cases h_; exact Ob.f rfl .n fun N => (O.mv rfl)
            | 3, h_ => cases h_; exact Ob.f rfl .n fun N => (O.add rfl rfl (c := ((k : Int) + 1)) (w64 (by omega)))
            | 4, h_ => cases h_; exact Ob.f rfl .n fun N => (O.ixR (k := kC) (xs := (gDs (matF a) i)) (n := ((k : Int) + 1)) ((((k : Int) + 1)).toNat) rfl rfl (mem_app N (mem_at 4 rfl)) Try.underlying27 ty31 (by omega) (by first | omega | (simp only [gRow_len, gDs_len, gLs_len]; omega) | (have := hq i (by omega); omega)))
            | 5, h_ => cases h_; exact Ob.f rfl .n fun N => (O.ldR (k := kC) (xs := (gDs (matF a) i)) ((((k : Int) + 1)).toNat) rfl (mem_app N (mem_at 4 rfl)) (Lens.id _) (ho := rfl) (y := (uD (matF a) (k + 1))) (gDs_at (by omega)) ty31 rfl)
            | 6, h_ => cases h_; exact Ob.f rfl .n fun N => (O.ld rfl (mem_app N (mem_at 0 rfl)) (Lens.id _) ty31 rfl)
            | 7, h_ => cases h_; exact Ob.f rfl .n fun N => (O.fn fn76 (evs.l rfl (kC_Z (by first | assumption | exact (hE k (by omega) i j (by omega) (by omega)).sm (by omega) | exact (hE k (by omega) k k (by omega) (by omega)).sm (by omega) | exact (hE k (by omega) i k (by omega) (by omega)).sm (by omega) | exact (hE k (by omega) j k (by omega) (by omega)).sm (by omega) | exact (hE i (by omega) i i (by omega) (by omega)).sm (by omega) | exact (hD k (by omega)).sm (by omega) | exact (((hE k (by omega) k k (by omega) (by omega)).mul (hE k (by omega) i j (by omega) (by omega))).sub ((hE k (by omega) i k (by omega) (by omega)).mul (hE k (by omega) j k (by omega) (by omega)))).sm (by omega) | exact ((hE k (by omega) k k (by omega) (by omega)).mul (hE k (by omega) i j (by omega) (by omega))).sm (by omega) | exact ((hE k (by omega) i k (by omega) (by omega)).mul (hE k (by omega) j k (by omega) (by omega))).sm (by omega))) (evs.l rfl (kC_Z (by first | assumption | exact (hE k (by omega) i j (by omega) (by omega)).sm (by omega) | exact (hE k (by omega) k k (by omega) (by omega)).sm (by omega) | exact (hE k (by omega) i k (by omega) (by omega)).sm (by omega) | exact (hE k (by omega) j k (by omega) (by omega)).sm (by omega) | exact (hE i (by omega) i i (by omega) (by omega)).sm (by omega) | exact (hD k (by omega)).sm (by omega) | exact (((hE k (by omega) k k (by omega) (by omega)).mul (hE k (by omega) i j (by omega) (by omega))).sub ((hE k (by omega) i k (by omega) (by omega)).mul (hE k (by omega) j k (by omega) (by omega)))).sm (by omega) | exact ((hE k (by omega) k k (by omega) (by omega)).mul (hE k (by omega) i j (by omega) (by omega))).sm (by omega) | exact ((hE k (by omega) i k (by omega) (by omega)).mul (hE k (by omega) j k (by omega) (by omega))).sm (by omega))) evs.nil)) (c_zint_Mul (uD (matF a) (k + 1)) (uE (matF a) k i j)))
            | 8, h_ => cases h_; exact Ob.f rfl .n fun N => (O.mv rfl)
            | 9, h_ => cases h_; exact Ob.f rfl .n fun N => (O.mv rfl)
            | 10, h_ => cases h_; exact Ob.f rfl .n fun N => (O.ixR (k := kC) (xs := (gRow (matF a) i j)) (n := (k : Int)) k rfl rfl (mem_app N (mem_at 1 rfl)) Try.underlying27 ty31 rfl (by first | omega | (simp only [gRow_len, gDs_len, gLs_len]; omega) | (have := hq i (by omega); omega)))
            | 11, h_ => cases h_; exact Ob.f rfl .n fun N => (O.ldR (k := kC) (xs := (gRow (matF a) i j)) k rfl (mem_app N (mem_at 1 rfl)) (Lens.id _) (ho := rfl) (y := (uE (matF a) k i k)) (gRow_at (by omega)) ty31 rfl)
            | 12, h_ => cases h_; exact Ob.f rfl .n fun N => (O.mv rfl)
            | 13, h_ => cases h_; exact Ob.f rfl .n fun N => (O.mv rfl)
            | 14, h_ => cases h_; exact Ob.f rfl .n fun N => (O.ixR (k := kC) (xs := (gRow (matF a) i j)) (n := (k : Int)) k rfl rfl (mem_app N (mem_at 1 rfl)) Try.underlying27 ty31 rfl (by first | omega | (simp only [gRow_len, gDs_len, gLs_len]; omega) | (have := hq i (by omega); omega)))
            | 15, h_ => cases h_; exact Ob.f rfl .n fun N => (O.ldR (k := kC) (xs := (gRow (matF a) i j)) k rfl (mem_app N (mem_at 1 rfl)) (Lens.id _) (ho := rfl) (y := (uE (matF a) k j k)) (by rw [show j = i by omega]; exact gRow_at (by omega)) ty31 rfl)
            | 16, h_ => cases h_; exact Ob.f rfl .n fun N => (O.fn fn76 (evs.l rfl (kC_Z (by first | assumption | exact (hE k (by omega) i j (by omega) (by omega)).sm (by omega) | exact (hE k (by omega) k k (by omega) (by omega)).sm (by omega) | exact (hE k (by omega) i k (by omega) (by omega)).sm (by omega) | exact (hE k (by omega) j k (by omega) (by omega)).sm (by omega) | exact (hE i (by omega) i i (by omega) (by omega)).sm (by omega) | exact (hD k (by omega)).sm (by omega) | exact (((hE k (by omega) k k (by omega) (by omega)).mul (hE k (by omega) i j (by omega) (by omega))).sub ((hE k (by omega) i k (by omega) (by omega)).mul (hE k (by omega) j k (by omega) (by omega)))).sm (by omega) | exact ((hE k (by omega) k k (by omega) (by omega)).mul (hE k (by omega) i j (by omega) (by omega))).sm (by omega) | exact ((hE k (by omega) i k (by omega) (by omega)).mul (hE k (by omega) j k (by omega) (by omega))).sm (by omega))) (evs.l rfl (kC_Z (by first | assumption | exact (hE k (by omega) i j (by omega) (by omega)).sm (by omega) | exact (hE k (by omega) k k (by omega) (by omega)).sm (by omega) | exact (hE k (by omega) i k (by omega) (by omega)).sm (by omega) | exact (hE k (by omega) j k (by omega) (by omega)).sm (by omega) | exact (hE i (by omega) i i (by omega) (by omega)).sm (by omega) | exact (hD k (by omega)).sm (by omega) | exact (((hE k (by omega) k k (by omega) (by omega)).mul (hE k (by omega) i j (by omega) (by omega))).sub ((hE k (by omega) i k (by omega) (by omega)).mul (hE k (by omega) j k (by omega) (by omega)))).sm (by omega) | exact ((hE k (by omega) k k (by omega) (by omega)).mul (hE k (by omega) i j (by omega) (by omega))).sm (by omega) | exact ((hE k (by omega) i k (by omega) (by omega)).mul (hE k (by omega) j k (by omega) (by omega))).sm (by omega))) evs.nil)) (c_zint_Mul (uE (matF a) k i k) (uE (matF a) k j k)))
            | 17, h_ => cases h_; exact Ob.f rfl .n fun N => (O.fn fn157 (evs.l rfl (kC_Z (by first | assumption | exact (hE k (by omega) i j (by omega) (by omega)).sm (by omega) | exact (hE k (by omega) k k (by omega) (by omega)).sm (by omega) | exact (hE k (by omega) i k (by omega) (by omega)).sm (by omega) | exact (hE k (by omega) j k (by omega) (by omega)).sm (by omega) | exact (hE i (by omega) i i (by omega) (by omega)).sm (by omega) | exact (hD k (by omega)).sm (by omega) | exact (((hE k (by omega) k k (by omega) (by omega)).mul (hE k (by omega) i j (by omega) (by omega))).sub ((hE k (by omega) i k (by omega) (by omega)).mul (hE k (by omega) j k (by omega) (by omega)))).sm (by omega) | exact ((hE k (by omega) k k (by omega) (by omega)).mul (hE k (by omega) i j (by omega) (by omega))).sm (by omega) | exact ((hE k (by omega) i k (by omega) (by omega)).mul (hE k (by omega) j k (by omega) (by omega))).sm (by omega))) (evs.l rfl (kC_Z (by first | assumption | exact (hE k (by omega) i j (by omega) (by omega)).sm (by omega) | exact (hE k (by omega) k k (by omega) (by omega)).sm (by omega) | exact (hE k (by omega) i k (by omega) (by omega)).sm (by omega) | exact (hE k (by omega) j k (by omega) (by omega)).sm (by omega) | exact (hE i (by omega) i i (by omega) (by omega)).sm (by omega) | exact (hD k (by omega)).sm (by omega) | exact (((hE k (by omega) k k (by omega) (by omega)).mul (hE k (by omega) i j (by omega) (by omega))).sub ((hE k (by omega) i k (by omega) (by omega)).mul (hE k (by omega) j k (by omega) (by omega)))).sm (by omega) | exact ((hE k (by omega) k k (by omega) (by omega)).mul (hE k (by omega) i j (by omega) (by omega))).sm (by omega) | exact ((hE k (by omega) i k (by omega) (by omega)).mul (hE k (by omega) j k (by omega) (by omega))).sm (by omega))) evs.nil)) (c_zint_Sub ((uD (matF a) (k + 1)) * (uE (matF a) k i j)) ((uE (matF a) k i k) * (uE (matF a) k j k))))
            | 18, h_ => cases h_; exact Ob.a rfl z31_C
            | n_ + 19, h_ => simp at h_
          refine WP.t .n (O.stW (l := kC) (u := ((uD (matF a) (k + 1)) * (uE (matF a) k i j)) - ((uE (matF a) k i k) * (uE (matF a) k j k))) 0 rfl rfl rfl ty31 rfl (VP.le_refl _)) ?_
          refine WP.nil ?_
          refine QE.next ?_
          refine CW.draw (Γ := [.fr (kC.is (((uD (matF a) (k + 1)) * (uE (matF a) k i j)) - ((uE (matF a) k i k) * (uE (matF a) k j k)))), .fr (VP.ex (.pointer (some ⟨b3, 0, none⟩))), .fr (VP.ex vD), .fr ((kInt .i64).is (k : Int)), .fr (VP.pel vD (k * 2)), .fr (kC.is (uD (matF a) k)), .fr (VP.tup [kC.is ((((uD (matF a) (k + 1)) * (uE (matF a) k i j)) - ((uE (matF a) k i k) * (uE (matF a) k j k))).fdiv (uD (matF a) k)), kC.is (if (uD (matF a) k) = 0 then 0 else (((uD (matF a) (k + 1)) * (uE (matF a) k i j)) - ((uE (matF a) k i k) * (uE (matF a) k j k))).fmod (uD (matF a) k)), (kInt .i64).is (if (uD (matF a) k) = 0 then 11 else 0)]), .fr (VP.tup [kC.is ((((uD (matF a) (k + 1)) * (uE (matF a) k i j)) - ((uE (matF a) k i k) * (uE (matF a) k j k))).fdiv (uD (matF a) k)), kC.is (if (uD (matF a) k) = 0 then 0 else (((uD (matF a) (k + 1)) * (uE (matF a) k i j)) - ((uE (matF a) k i k) * (uE (matF a) k j k))).fmod (uD (matF a) k)), (kInt .i64).is (if (uD (matF a) k) = 0 then 11 else 0)]), .fr (kC.is ((((uD (matF a) (k + 1)) * (uE (matF a) k i j)) - ((uE (matF a) k i k) * (uE (matF a) k j k))).fdiv (uD (matF a) k))), .lt (kC.is (if (uD (matF a) k) = 0 then 0 else (((uD (matF a) (k + 1)) * (uE (matF a) k i j)) - ((uE (matF a) k i k) * (uE (matF a) k j k))).fmod (uD (matF a) k))), .lt ((kInt .i64).is (if (uD (matF a) k) = 0 then 11 else 0))]) (lates := [false, false, false, false, false, false, false, false, false, true, true]) (by kernel_rfl) (Chk.of rfl (by kernel_rfl) rfl) (fun _ _ _ _ _ h => h) (fun q_ x_ h_ => ?_) (fun σ4 => ?_)
          · match q_, h_ with
            | 0, h_ => cases h_; exact Ob.f rfl .n fun N => (O.ld rfl (mem_app N (mem_at 0 rfl)) (Lens.id _) ty31 rfl)
            | 1, h_ => cases h_; exact Ob.f rfl .n fun N => (O.fa rfl fld93_0 rfl)
            | 2, h_ => cases h_; exact Ob.f rfl .n fun N => (OpOk.le (O.ld (p := kVal.is vD) rfl (mem_app N (mem_at 4 rfl)) (Lens.fst (Lens.id _)) ty27 rfl) (val_ex _))
            | 3, h_ => cases h_; exact Ob.f rfl .n fun N => (O.mv rfl)
            | 4, h_ => cases h_; exact Ob.f rfl .n fun N => (O.ixR (k := kC) (xs := (gDs (matF a) i)) (n := (k : Int)) k rfl rfl (mem_app N (mem_at 5 rfl)) Try.underlying27 ty31 rfl (by first | omega | (simp only [gRow_len, gDs_len, gLs_len]; omega) | (have := hq i (by omega); omega)))
            | 5, h_ => cases h_; exact Ob.f rfl .n fun N => (O.ldR (k := kC) (xs := (gDs (matF a) i)) k rfl (mem_app N (mem_at 5 rfl)) (Lens.id _) (ho := rfl) (y := (uD (matF a) k)) (gDs_at (by omega)) ty31 rfl)
            | 6, h_ => cases h_; exact Ob.f rfl .n fun N => (O.fn fn105 (evs.l rfl (kC_Z (by first | assumption | exact (hE k (by omega) i j (by omega) (by omega)).sm (by omega) | exact (hE k (by omega) k k (by omega) (by omega)).sm (by omega) | exact (hE k (by omega) i k (by omega) (by omega)).sm (by omega) | exact (hE k (by omega) j k (by omega) (by omega)).sm (by omega) | exact (hE i (by omega) i i (by omega) (by omega)).sm (by omega) | exact (hD k (by omega)).sm (by omega) | exact (((hE k (by omega) k k (by omega) (by omega)).mul (hE k (by omega) i j (by omega) (by omega))).sub ((hE k (by omega) i k (by omega) (by omega)).mul (hE k (by omega) j k (by omega) (by omega)))).sm (by omega) | exact ((hE k (by omega) k k (by omega) (by omega)).mul (hE k (by omega) i j (by omega) (by omega))).sm (by omega) | exact ((hE k (by omega) i k (by omega) (by omega)).mul (hE k (by omega) j k (by omega) (by omega))).sm (by omega))) (evs.l rfl (kC_Z (by first | assumption | exact (hE k (by omega) i j (by omega) (by omega)).sm (by omega) | exact (hE k (by omega) k k (by omega) (by omega)).sm (by omega) | exact (hE k (by omega) i k (by omega) (by omega)).sm (by omega) | exact (hE k (by omega) j k (by omega) (by omega)).sm (by omega) | exact (hE i (by omega) i i (by omega) (by omega)).sm (by omega) | exact (hD k (by omega)).sm (by omega) | exact (((hE k (by omega) k k (by omega) (by omega)).mul (hE k (by omega) i j (by omega) (by omega))).sub ((hE k (by omega) i k (by omega) (by omega)).mul (hE k (by omega) j k (by omega) (by omega)))).sm (by omega) | exact ((hE k (by omega) k k (by omega) (by omega)).mul (hE k (by omega) i j (by omega) (by omega))).sm (by omega) | exact ((hE k (by omega) i k (by omega) (by omega)).mul (hE k (by omega) j k (by omega) (by omega))).sm (by omega))) evs.nil)) (c_zint_Floor (((uD (matF a) (k + 1)) * (uE (matF a) k i j)) - ((uE (matF a) k i k) * (uE (matF a) k j k))) (uD (matF a) k)))
            | 7, h_ => cases h_; exact Ob.f rfl .n fun N => (O.mv rfl)
            | 8, h_ => cases h_; exact Ob.f rfl .n fun N => (O.ext rfl rfl)
            | 9, h_ => cases h_; exact Ob.l rfl .n (OV.ext rfl rfl)
            | 10, h_ => cases h_; exact Ob.l rfl .n (OV.ext rfl rfl)
            | n_ + 11, h_ => simp at h_
          refine WP.t .n (O.stW (l := kC) (u := (((uD (matF a) (k + 1)) * (uE (matF a) k i j)) - ((uE (matF a) k i k) * (uE (matF a) k j k))).fdiv (uD (matF a) k)) 1 rfl rfl rfl ty31 rfl (VP.le_refl _)) ?_
          refine WP.nil ?_
          refine QE.blkN ?_
          refine QE.next ?_
          refine CW.region ?_
          refine WP.s .n (O.add rfl rfl (c := ((k : Int) + 1)) (w64 (by omega))) ?_
          refine WP.s .n (O.mv rfl) ?_
          refine WP.nil ?_
          refine ST.obtold 1 rfl (OB.box_eq (y := (uE (matF a) (k + 1) i j)) (uE_succ _ k i j).symm) ?_
          exact QE.round2 (k + 1) p (by omega) (by omega) (Imp.cons rfl (Imp.cons rfl (Imp.cons rfl (Imp.cons rfl (Imp.cons rfl (Imp.cons rfl (Imp.cons rfl (Imp.cons rfl (Imp.cons rfl (Imp.consLe rfl (is_eq (y := (((k + 1) : Nat) : Int)) (by first | rfl | omega | assumption)) (Imp.cons rfl (Imp.cons rfl Imp.nil)))))))))))) (OImp.os (OS.skip (OS.keep (OS.keep (OS.keep (OS.keep (OS.keep (OS.keep OS.nil))))))))
      · refine CW.exit ?_
        refine QE.thenE ?_
        refine QE.thenE ?_
        refine QE.blkH ?_
        refine QE.next ?_
        refine CW.region ?_
        refine WP.s .n (O.mv rfl) ?_
        refine WP.s .n (O.ld rfl (mem_at 0 rfl) (Lens.id _) ty31 rfl) ?_
        refine WP.s .n (O.bs Try.underlying27 el31_C (evl.c rfl evl.n) rfl (by decide)) ?_
        refine WP.ap 1 .n rfl rfl rfl (VP.le_refl _) Try.underlying27 el31_C (by simp only [gRow_len, gDs_len, gLs_len, List.length_cons, List.length_nil]; omega) fun v5 => ?_
        refine WP.s .n (O.asg rfl) ?_
        refine WP.nil ?_
        refine QE.blkN ?_
        refine QE.next ?_
        refine CW.region ?_
        refine WP.s .n (O.mv rfl) ?_
        refine WP.s .n (O.add rfl rfl (c := ((j : Int) + 1)) (w64 (by omega))) ?_
        refine WP.s .n (O.asg rfl) ?_
        refine WP.nil ?_
        refine ST.obtold 1 rfl (OB.row_eq (ys := (gRow (matF a) i (j + 1))) (by rw [show k = j by omega]; exact gRow_app (matF a) i j)) ?_
        exact QE.round2 (j + 1) v5 (by omega) (by omega) (Imp.cons rfl (Imp.cons rfl (Imp.cons rfl (Imp.cons rfl (Imp.cons rfl (Imp.cons rfl (Imp.consLe rfl (is_eq (y := (((j + 1) : Nat) : Int)) (by first | rfl | omega | assumption)) (Imp.cons rfl (Imp.cons rfl Imp.nil))))))))) (OImp.os (OS.skip (OS.keep (OS.keep (OS.keep (OS.keep (OS.keep OS.nil)))))))
    · refine CW.exit ?_
      refine QE.thenE ?_
      refine QE.thenE ?_
      refine QE.blkH ?_
      refine QE.next ?_
      refine CW.seq ?_
      refine CW.seq ?_
      refine ST.obtold 0 rfl (OB.row_eq (ys := (gRow (matF a) i (i + 1))) (by rw [show j = i + 1 by omega])) ?_
      have hE := uE_Sz hs hz hP
      have hD := uD_Sz hs hz hP
      have hUi := hU i (by omega)
      refine CW.region ?_
      refine WP.s .n (O.mv rfl) ?_
      refine WP.s .n (O.mv rfl) ?_
      refine WP.s .n (O.ixR (k := kC) (xs := (gRow (matF a) i (i + 1))) (n := (i : Int)) i rfl rfl (mem_at 0 rfl) Try.underlying27 ty31 rfl (by first | omega | (simp only [gRow_len, gDs_len, gLs_len]; omega) | (have := hq i (by omega); omega))) ?_
      refine WP.s .n (O.ldR (k := kC) (xs := (gRow (matF a) i (i + 1))) i rfl (mem_at 0 rfl) (Lens.id _) (ho := rfl) (y := (uE (matF a) i i i)) (gRow_at (by omega)) ty31 rfl) ?_
      refine WP.s .n (O.fn fn80 (evs.l rfl (kC_Z (by first | assumption | exact (hE k (by omega) i j (by omega) (by omega)).sm (by omega) | exact (hE k (by omega) k k (by omega) (by omega)).sm (by omega) | exact (hE k (by omega) i k (by omega) (by omega)).sm (by omega) | exact (hE k (by omega) j k (by omega) (by omega)).sm (by omega) | exact (hE i (by omega) i i (by omega) (by omega)).sm (by omega) | exact (hD k (by omega)).sm (by omega) | exact (((hE k (by omega) k k (by omega) (by omega)).mul (hE k (by omega) i j (by omega) (by omega))).sub ((hE k (by omega) i k (by omega) (by omega)).mul (hE k (by omega) j k (by omega) (by omega)))).sm (by omega) | exact ((hE k (by omega) k k (by omega) (by omega)).mul (hE k (by omega) i j (by omega) (by omega))).sm (by omega) | exact ((hE k (by omega) i k (by omega) (by omega)).mul (hE k (by omega) j k (by omega) (by omega))).sm (by omega))) evs.nil) (c_zint_Sign (uE (matF a) i i i))) ?_
      refine WP.s .n (O.le rfl rfl) ?_
      refine WP.nil ?_
      refine QE.next ?_
      refine CW.condD rfl (fun h_t85 => ?_) (fun h_t85 => ?_)
      · refine CW.seq ?_
        refine CW.region ?_
        refine WP.s .n (O.bld lit93_pr_sl_C_sl_sl_C_ rfl evp.n (.nil _)) ?_
        refine WP.t .n (O.stW (l := (kPair (kSl kC) (kSl (kSl kC)))) (u := ([], [])) 4 rfl rfl rfl ty93 rfl (VP.le_refl _)) ?_
        refine WP.s .n (O.asg rfl) ?_
        refine WP.nil ?_
        refine QE.next ?_
        refine CW.ret ?_
        refine QE.thenR ?_
        refine QE.blkR ?_
        refine QE.thenR ?_
        refine QE.thenR ?_
        refine QE.blkR ?_
        refine QE.thenR ?_
        refine ST.obtold 4 rfl (OB.box_eq (y := (gsoV (matF a) a.length)) (gso_no (by omega) h_t85).2.symm) ?_
        refine ST.told 3 rfl (is_eq (y := (gOk (matF a) a.length)) (gso_no (by omega) h_t85).1.symm) ?_
        exact QE.done (.inl rfl) rfl (ResOk.c rfl (mem_at 4 rfl) ty93 (ResOk.t rfl ResOk.nil)) (OImp.sub (List.nil_sublist _)) ⟨rfl, rfl⟩
      · refine CW.skip ?_
        refine QE.next ?_
        refine CW.seq ?_
        refine CW.draw (Γ := [.fr (VP.ex (.pointer (some ⟨b3, 0, none⟩))), .fr (VP.ex vD), .fr (VP.ex v), .fr ((kInt .i64).is (i : Int)), .fr (VP.pel v (i * 2)), .fr (kC.is (uE (matF a) i i i)), .fr ((kSl kC).is [(uE (matF a) i i i)])]) (lates := [false, false, false, false, false, false, false]) (by kernel_rfl) (Chk.of rfl (by kernel_rfl) rfl) (fun _ _ _ _ _ h => h) (fun q_ x_ h_ => ?_) (fun σ5 => ?_)
        · match q_, h_ with
          | 0, h_ => cases h_; exact Ob.f rfl .n fun N => (O.fa rfl fld93_0 rfl)
          | 1, h_ => cases h_; exact Ob.f rfl .n fun N => (OpOk.le (O.ld (p := kVal.is vD) rfl (mem_app N (mem_at 2 rfl)) (Lens.fst (Lens.id _)) ty27 rfl) (val_ex _))
          | 2, h_ => cases h_; exact Ob.f rfl .n fun N => (O.mv rfl)
          | 3, h_ => cases h_; exact Ob.f rfl .n fun N => (O.mv rfl)
          | 4, h_ => cases h_; exact Ob.f rfl .n fun N => (O.ixR (k := kC) (xs := (gRow (matF a) i (i + 1))) (n := (i : Int)) i rfl rfl (mem_app N (mem_at 0 rfl)) Try.underlying27 ty31 rfl (by first | omega | (simp only [gRow_len, gDs_len, gLs_len]; omega) | (have := hq i (by omega); omega)))
          | 5, h_ => cases h_; exact Ob.f rfl .n fun N => (O.ldR (k := kC) (xs := (gRow (matF a) i (i + 1))) i rfl (mem_app N (mem_at 0 rfl)) (Lens.id _) (ho := rfl) (y := (uE (matF a) i i i)) (gRow_at (by omega)) ty31 rfl)
          | 6, h_ => cases h_; exact Ob.f rfl .n fun N => (O.bs Try.underlying27 el31_C (evl.c rfl evl.n) rfl (by decide))
          | n_ + 7, h_ => simp at h_
        refine WP.ap 3 .n rfl rfl rfl (VP.le_refl _) Try.underlying27 el31_C (by simp only [gRow_len, gDs_len, gLs_len, List.length_cons, List.length_nil]; omega) fun v6 => ?_
        refine WP.s .n (O.fa rfl fld93_0 rfl) ?_
        refine ST.rowcell 3 rfl fun hcell_ => ?_
        refine WP.t .n (O.st 2 rfl rfl (Lens.fst (Lens.id _)) ty27 rfl (ex_val (by first | rfl | assumption))) ?_
        refine WP.nil ?_
        refine QE.next ?_
        refine ST.freeze 0 rfl (.keep (i := 0) rfl (.keep (i := 2) rfl (.keep (i := 3) rfl (.keep (i := 4) rfl (.keep (i := 5) rfl (.hit (i := 6) rfl (.keep (i := 7) rfl (.keep (i := 16) rfl (.keep (i := 17) rfl (.keep (i := 20) rfl (.keep (i := 21) rfl (.keep (i := 22) rfl (.hit (i := 80) rfl (.keep (i := 81) rfl (.keep (i := 82) rfl (.keep (i := 83) rfl (.keep (i := 84) rfl (.keep (i := 85) rfl (.keep (i := 87) rfl (.keep (i := 88) rfl (.hit (i := 89) rfl (.keep (i := 90) rfl (.keep (i := 91) rfl (.keep (i := 92) rfl (.keep (i := 93) rfl (.keep (i := 94) rfl (.keep (i := 95) rfl .nil))))))))))))))))))))))))))) ?_
        refine CW.draw (Γ := [.fr (VP.ex (.pointer (some ⟨b3, 1, none⟩))), .fr (VP.ex vL), .fr ((kSl kC).is (gRow (matF a) i (i + 1))), .fr ((kInt .i64).is (i : Int)), .fr ((kInt .i64).is (i : Int)), .fr ((kSl kC).is ((gRow (matF a) i (i + 1)).take i)), .fr ((kSl (kSl kC)).is [((gRow (matF a) i (i + 1)).take i)])]) (lates := [false, false, false, false, false, false, false]) (by kernel_rfl) (Chk.of rfl (by kernel_rfl) rfl) (fun _ _ _ _ _ h => h) (fun q_ x_ h_ => ?_) (fun σ6 => ?_)
        · match q_, h_ with
          | 0, h_ => cases h_; exact Ob.f rfl .n fun N => (O.fa rfl fld93_1 rfl)
          | 1, h_ => cases h_; exact Ob.f rfl .n fun N => (OpOk.le (O.ld (p := kVal.is vL) rfl (mem_app N (mem_at 1 rfl)) (Lens.snd (Lens.id _)) ty67 rfl) (val_ex _))
          | 2, h_ => cases h_; exact Ob.f rfl .n fun N => (O.mv rfl)
          | 3, h_ => cases h_; exact Ob.f rfl .n fun N => (O.mv rfl)
          | 4, h_ => cases h_; exact Ob.f rfl .n fun N => (O.mv rfl)
          | 5, h_ => cases h_; exact Ob.f rfl .n fun N => (O.sl3 i rfl rfl rfl Try.underlying27 ty31 rfl rfl (by first | omega | (simp only [gRow_len, gDs_len, gLs_len]; omega) | (have := hq i (by omega); omega)))
          | 6, h_ => cases h_; exact Ob.f rfl .n fun N => (O.bs Try.underlying67 el27_sl_C (evl.c rfl evl.n) rfl (by decide))
          | n_ + 7, h_ => simp at h_
        refine WP.ap 0 .n rfl rfl rfl (VP.le_refl _) Try.underlying67 el27_sl_C (by simp only [gRow_len, gDs_len, gLs_len, List.length_cons, List.length_nil]; omega) fun v7 => ?_
        refine WP.s .n (O.fa rfl fld93_1 rfl) ?_
        refine ST.rowcell 0 rfl fun hcell_ => ?_
        refine WP.t .n (O.st 1 rfl rfl (Lens.snd (Lens.id _)) ty67 rfl (ex_val (by first | rfl | assumption))) ?_
        refine WP.nil ?_
        refine QE.blkN ?_
        refine QE.next ?_
        refine CW.region ?_
        refine WP.s .n (O.add rfl rfl (c := ((i : Int) + 1)) (w64 (by omega))) ?_
        refine WP.s .n (O.mv rfl) ?_
        refine WP.nil ?_
        refine ST.obtold 2 rfl (OB.row_eq (ys := (gDs (matF a) (i + 1))) (gDs_app (matF a) i)) ?_
        refine ST.obtold 0 rfl (OB.row_eq (ys := (gLs (matF a) (i + 1))) (by rw [gRow_take]; exact gLs_app (matF a) i)) ?_
        exact QE.round3 (i + 1) v6 v7 (by omega) ⟨by omega, posU_succ hP h_t85⟩ (Imp.cons rfl (Imp.cons rfl (Imp.cons rfl (Imp.cons rfl (Imp.cons rfl (Imp.consLe rfl (is_eq (y := (((i + 1) : Nat) : Int)) (by first | rfl | omega | assumption)) Imp.nil)))))) (OImp.refl _)
  · refine CW.exit ?_
    refine QE.thenE ?_
    refine QE.thenE ?_
    refine QE.blkH ?_
    refine QE.next ?_
    refine CW.seq ?_
    refine ST.freezeIn (k2 := (kPair (kSl kC) kVal)) ((gDs (matF a) i), vL) 2 1 rfl rfl (fun m_ cs_ h_ c_ => fz_fst m_ cs_ h_ c_) (.keep (i := 0) rfl (.keep (i := 2) rfl (.keep (i := 3) rfl (.keep (i := 4) rfl (.keep (i := 16) rfl (.keep (i := 17) rfl (.keep (i := 18) rfl .nil))))))) ?_
    refine ST.freezeIn (k2 := (kPair (kSl kC) (kSl (kSl kC)))) ((gDs (matF a) i), (gLs (matF a) i)) 0 0 rfl rfl (fun m_ cs_ h_ c_ => fz_snd m_ cs_ h_ c_) (.keep (i := 0) rfl (.keep (i := 2) rfl (.keep (i := 3) rfl (.keep (i := 4) rfl (.keep (i := 16) rfl (.keep (i := 17) rfl (.keep (i := 18) rfl .nil))))))) ?_
    have hib : i = a.length := by omega
    refine CW.region ?_
    refine WP.s .n (O.ld (p := (kPair (kSl kC) (kSl (kSl kC))).is ((gDs (matF a) i), (gLs (matF a) i))) rfl (mem_at 0 rfl) (Lens.id _) ty93 rfl) ?_
    refine WP.t .n (O.stW (l := (kPair (kSl kC) (kSl (kSl kC)))) (u := ((gDs (matF a) i), (gLs (matF a) i))) 1 rfl rfl rfl ty93 rfl (VP.le_refl _)) ?_
    refine WP.s .n (O.asg rfl) ?_
    refine WP.nil ?_
    refine QE.next ?_
    refine CW.ret ?_
    refine ST.obtold 1 rfl (OB.box_eq (y := (gsoV (matF a) a.length)) (by rw [hib]; rw [hib] at hP; exact (gso_yes hP).2.symm)) ?_
    refine ST.told 3 rfl (is_eq (y := (gOk (matF a) a.length)) (by rw [hib] at hP; exact (gso_yes hP).1.symm)) ?_
    exact QE.done (.inl rfl) rfl (ResOk.c rfl (mem_at 1 rfl) ty93 (ResOk.t rfl ResOk.nil)) (OImp.sub (List.nil_sublist _)) ⟨rfl, rfl⟩

set_option maxRecDepth 20000 in
set_option maxHeartbeats 1000000 in
theorem c_quad_Valid (a : List (List Int)) : Fn Try.prog 51 [(kSl (kSl kZ)).is a] ((kInt .i64).is (quadE a)) := by
  refine Con.enter Try.func51 rfl rfl fun m w => ?_
  refine CW.seq ?_
  refine CW.region ?_
  refine WP.s .n (O.asg rfl) ?_
  refine WP.nil ?_
  refine QE.next ?_
  refine CW.seq ?_
  refine CW.seq ?_
  refine CW.region ?_
  refine WP.s .n (O.mv rfl) ?_
  refine WP.s .n (O.fn fn112 (evs.c rfl evs.nil) (c_quad_shaped a)) ?_
  refine WP.s .n (O.asg rfl) ?_
  refine WP.nil ?_
  refine QE.next ?_
  refine CW.seq ?_
  refine CW.region ?_
  refine WP.s .n (O.mv rfl) ?_
  refine WP.s .n (O.ne rfl rfl) ?_
  refine WP.nil ?_
  refine QE.next ?_
  refine CW.condD rfl (fun h_t9 => ?_) (fun h_t9 => ?_)
  · refine CW.seq ?_
    refine CW.region ?_
    refine WP.s .n (O.mv rfl) ?_
    refine WP.s .n (O.asg rfl) ?_
    refine WP.nil ?_
    refine QE.next ?_
    refine CW.ret ?_
    refine QE.thenR ?_
    refine ST.told 2 rfl (is_eq (y := (quadE a)) (quadE_1 (by omega)).symm) ?_
    exact QE.done (.inl rfl) rfl (ResOk.t rfl ResOk.nil) (OImp.sub (List.nil_sublist _)) ⟨rfl, rfl⟩
  · refine CW.skip ?_
    refine QE.next ?_
    refine CW.seq ?_
    refine CW.seq ?_
    have hM := sqm_of (a := a) (by omega)
    refine CW.region ?_
    refine WP.s .n (O.mv rfl) ?_
    refine WP.s .n (O.fn fn113 (evs.c rfl evs.nil) (c_quad_data 256 a (by first | exact hM.z | exact hM.q | exact hM.s | exact hM.n | decide) (by first | exact hM.z | exact hM.q | exact hM.s | exact hM.n | decide) (by first | exact hM.z | exact hM.q | exact hM.s | exact hM.n | decide) (by first | exact hM.z | exact hM.q | exact hM.s | exact hM.n | decide) (by first | exact hM.z | exact hM.q | exact hM.s | exact hM.n | decide))) ?_
    refine WP.s .n (O.mv rfl) ?_
    refine WP.s .n (O.ext rfl rfl) ?_
    refine WP.s .n (O.ext rfl rfl) ?_
    refine WP.al .n z93_pr_sl_C_sl_sl_C_ fun b1 => ?_
    refine WP.t .n (O.stW (l := (kPair (kSl kC) (kSl (kSl kC)))) (u := gsoV (matF a) a.length) 0 rfl rfl rfl ty93 rfl (VP.le_refl _)) ?_
    refine WP.s .n (O.asg rfl) ?_
    refine WP.nil ?_
    refine QE.next ?_
    refine CW.seq ?_
    refine CW.region ?_
    refine WP.s .n (O.mv rfl) ?_
    refine WP.s .n (O.not rfl) ?_
    refine WP.nil ?_
    refine QE.next ?_
    refine CW.cond rfl (fun h_t17 => ?_) (fun h_t17 => ?_)
    · refine CW.seq ?_
      refine CW.region ?_
      refine WP.s .n (O.asg rfl) ?_
      refine WP.nil ?_
      refine QE.next ?_
      refine CW.ret ?_
      refine QE.thenR ?_
      refine ST.told 2 rfl (is_eq (y := (quadE a)) (quadE_2 (by omega) (by simpa using h_t17)).symm) ?_
      exact QE.done (.inl rfl) rfl (ResOk.t rfl ResOk.nil) (OImp.sub (List.nil_sublist _)) ⟨rfl, rfl⟩
    · refine CW.skip ?_
      refine QE.next ?_
      refine CW.seq ?_
      refine CW.region ?_
      refine WP.s .n (O.asg rfl) ?_
      refine WP.nil ?_
      refine QE.next ?_
      refine CW.ret ?_
      refine ST.told 2 rfl (is_eq (y := (quadE a)) (quadE_3 (by omega) (by simpa using h_t17)).symm) ?_
      exact QE.done (.inl rfl) rfl (ResOk.t rfl ResOk.nil) (OImp.sub (List.nil_sublist _)) ⟨rfl, rfl⟩

end Fw


/- Plain facts: products of rows as a form. -/
set_option linter.unusedVariables false
set_option linter.unusedSimpArgs false
set_option exponentiation.threshold 400
namespace Fw
open Go

theorem map_take_app {α β : Type} {l : List α} {F : α → β} {d : α} {i : Nat} (h : i < l.length) : (l.take i).map F ++ [F (l.getD i d)] = (l.take (i + 1)).map F := by
  rw [← take_app (d := d) h, List.map_append]; rfl
/-- the sum of the first n -/
def sumN (f : Nat → Int) : Nat → Int
  | 0 => 0
  | n + 1 => sumN f n + f n
theorem sumN_congr {f g : Nat → Int} : ∀ {n}, (∀ i, i < n → f i = g i) → sumN f n = sumN g n
  | 0, _ => rfl
  | n + 1, h => by rw [sumN, sumN, sumN_congr (fun i hi => h i (by omega)), h n (by omega)]
theorem mul_sumN (f : Nat → Int) (c : Int) : ∀ n, c * sumN f n = sumN (fun i => c * f i) n
  | 0 => by simp [sumN]
  | n + 1 => by rw [sumN, sumN, Int.mul_add, mul_sumN f c n]
theorem sumN_add (f g : Nat → Int) : ∀ n, sumN (fun i => f i + g i) n = sumN f n + sumN g n
  | 0 => rfl
  | n + 1 => by simp only [sumN]; rw [sumN_add f g n]; omega
theorem sumN_zero : ∀ n, sumN (fun _ => 0) n = 0
  | 0 => rfl
  | n + 1 => by rw [sumN, sumN_zero n]; rfl
theorem combN_sum (x : List Int) (b : List (List Int)) (k) : ∀ n, combN x b k n = sumN (fun i => x.getD i 0 * (b.getD i []).getD k 0) n
  | 0 => rfl
  | n + 1 => by rw [combN, sumN, combN_sum x b k n]
/-- a form's matrix acts by its entries alone -/
theorem uE_congr {G H : Nat → Nat → Int} {n : Nat} (h : ∀ i j, i < n → j < n → G i j = H i j) : ∀ k i j, k ≤ n → i < n → j < n → uE G k i j = uE H k i j ∧ uD G k = uD H k
  | 0, i, j, _, hi, hj => ⟨h i j hi hj, rfl⟩
  | k + 1, i, j, hk, hi, hj => by
    have e1 := uE_congr h k i j (by omega) hi hj
    have e2 := (uE_congr h k i k (by omega) hi (by omega)).1
    have e3 := (uE_congr h k j k (by omega) hj (by omega)).1
    have e4 := (uE_congr h k k k (by omega) (by omega) (by omega)).1
    have e5 : uD G (k + 1) = uD H (k + 1) := e4
    exact ⟨by rw [uE_succ, uE_succ, e5, e1.1, e2, e3, e1.2], e5⟩
theorem uD_congr {G H : Nat → Nat → Int} {n : Nat} (h : ∀ i j, i < n → j < n → G i j = H i j) {k} (hk : k ≤ n) : uD G k = uD H k := by
  cases k with
  | zero => rfl
  | succ k => exact (uE_congr h k k k (by omega) (by omega) (by omega)).1
theorem posU_congr {G H : Nat → Nat → Int} {n : Nat} (h : ∀ i j, i < n → j < n → G i j = H i j) : PosU G n ↔ PosU H n := by
  constructor
  · intro hp l hl; rw [← (uE_congr h l l l (by omega) (by omega) (by omega)).1]; exact hp l hl
  · intro hp l hl; rw [(uE_congr h l l l (by omega) (by omega) (by omega)).1]; exact hp l hl
theorem getD_map {α β : Type} (F : α → β) (l : List α) (d : α) (e : β) {i : Nat} (h : i < l.length) : (l.map F).getD i e = F (l.getD i d) := by
  rw [gde _ e (by simpa using h), gde _ d h]; simp
theorem slslC_Z {xs : List (List Int)} (h : ∀ r ∈ xs, ∀ x ∈ r, Sm x) : VP.le ((kSl (kSl kC)).is xs) ((kSl (kSl kZ)).is xs) :=
  is_kd rfl fun m cs hx => sl_kd (f := fun r s => r = s ∧ ∀ x ∈ r, Sm x) (fun m cs r s hrs hr => by
    obtain ⟨rfl, h2⟩ := hrs
    exact sl_kd (f := fun x y => x = y ∧ Sm x) (fun m cs x y hxy hx => by obtain ⟨rfl, h4⟩ := hxy; exact kC_Zat h4 hx) (F2.same h2) hr) (F2.same h) hx
theorem SzM_mem {n b} (h : SzM n b) {r : List Int} (hr : r ∈ b) : SzL n r := by
  obtain ⟨i, hi, rfl⟩ := mem_getD [] hr
  exact h i
theorem SzM.sm {n b} (h : SzM n b) (hn : n ≤ 549755813888) : ∀ r ∈ b, ∀ x ∈ r, Sm x := fun r hr => (SzM_mem h hr).sm hn
theorem qv_1 {a x} (h : quadE a ≠ 0) : qvalV a x = 0 ∧ qvalE a x = quadE a := ⟨if_pos h, if_pos h⟩
theorem qv_2 {a : List (List Int)} {x : List Int} (h : ¬ quadE a ≠ 0) (hl : x.length ≠ a.length) : qvalV a x = 0 ∧ qvalE a x = 8 := by
  unfold qvalV qvalE; rw [if_neg h, if_neg h, if_neg hl, if_neg hl]; exact ⟨rfl, rfl⟩
theorem qv_3 {a : List (List Int)} {x : List Int} (h : ¬ quadE a ≠ 0) (hl : x.length = a.length) : qvalV a x = qval a x ∧ qvalE a x = 0 := by
  unfold qvalV qvalE; rw [if_neg h, if_neg h, if_pos hl, if_pos hl]; exact ⟨rfl, rfl⟩
end Fw


/- Values of forms; products of rows; QuadRows. -/
set_option linter.unusedVariables false
set_option linter.unusedSimpArgs false
set_option exponentiation.threshold 400
namespace Fw
open Go Go.Proofs

set_option maxRecDepth 20000 in
set_option maxHeartbeats 1000000 in
theorem c_quad_product (n : Nat) (a : List (List Int)) (x y : List Int) (ha : SzM 256 a) (hx : SzL n x) (hy : SzL n y) (hok : combOk x a) (hl : a.length ≤ 12) (hyl : y.length = (a.getD 0 []).length) (hc : y.length ≤ 12) (hn : n ≤ 4294967296) : Fn Try.prog 114 [(kSl (kSl kZ)).is a, (kSl kZ).is x, (kSl kZ).is y] (kC.is (dotV (combV x a) y)) := by
  refine Con.enter Try.func114 rfl rfl fun m w => ?_
  refine CW.seq ?_
  refine CW.region ?_
  refine WP.al .n z31_C fun b1 => ?_
  refine WP.nil ?_
  refine QE.next ?_
  refine CW.seq ?_
  refine CW.region ?_
  refine WP.s .n (O.mv rfl) ?_
  refine WP.s .n (O.mv rfl) ?_
  refine WP.s .n (O.fn fn69 (evs.c rfl (evs.c rfl evs.nil)) (c_mat_Combine (n + 256) x a (hx.up (by omega)) (ha.up (by omega)) (by omega))) ?_
  refine WP.s .n (O.mv rfl) ?_
  refine WP.s .n (O.ext rfl rfl) ?_
  refine WP.s .n (O.ext rfl rfl) ?_
  refine WP.s .n (O.asg rfl) ?_
  refine WP.s .n (O.asg rfl) ?_
  refine WP.nil ?_
  refine QE.next ?_
  refine CW.seq ?_
  refine ST.told 7 rfl (is_eq (y := (combV x a)) (comb_yes hok).1.symm) ?_
  have hC : SzL (n + 512) (combV x a) := (combV_Sz hx ha).up (by omega)
  have hll : (combV x a).length = y.length := by rw [combV_len, hyl]
  refine CW.region ?_
  refine WP.s .n (O.mv rfl) ?_
  refine WP.s .n (O.mv rfl) ?_
  refine WP.s .n (O.fn fn175 (evs.l rfl (slC_Z (by exact hC.sm (by omega))) (evs.c rfl evs.nil)) (c_mat_Dot (n + 512) (combV x a) y hC (hy.up (by omega)) (by rw [combV_len]; omega))) ?_
  refine ST.told (q := VP.tup [kC.is (dotV (combV x a) y), (kInt .i64).is 0]) 20 rfl (tup_le (tup_cons (is_eq (if_pos hll)) (tup_cons (is_eq (if_pos hll)) tup_nil))) ?_
  refine WP.s .n (O.mv rfl) ?_
  refine WP.s .n (O.ext rfl rfl) ?_
  refine WP.s .n (O.ext rfl rfl) ?_
  refine WP.al .n z31_C fun b2 => ?_
  refine WP.t .n (O.stW (l := kC) (u := dotV (combV x a) y) 0 rfl rfl rfl ty31 rfl (VP.le_refl _)) ?_
  refine WP.s .n (O.asg rfl) ?_
  refine WP.nil ?_
  refine QE.next ?_
  refine CW.seq ?_
  refine CW.region ?_
  refine WP.s .n (O.ld rfl (mem_at 0 rfl) (Lens.id _) ty31 rfl) ?_
  refine WP.t .n (O.stW (l := kC) (u := dotV (combV x a) y) 1 rfl rfl rfl ty31 rfl (VP.le_refl _)) ?_
  refine WP.nil ?_
  refine QE.next ?_
  refine CW.ret ?_
  exact QE.done (.inl rfl) rfl (ResOk.c rfl (mem_at 1 rfl) ty31 ResOk.nil) (OImp.sub (List.nil_sublist _)) ⟨rfl, rfl⟩

set_option maxRecDepth 20000 in
set_option maxHeartbeats 1000000 in
theorem c_quad_Value (n : Nat) (a : List (List Int)) (x : List Int) (hx : SzL n x) (hn : n ≤ 4294967296) : Fn Try.prog 53 [(kSl (kSl kZ)).is a, (kSl kZ).is x] (VP.tup [kC.is (qvalV a x), (kInt .i64).is (qvalE a x)]) := by
  refine Con.enter Try.func53 rfl rfl fun m w => ?_
  refine CW.seq ?_
  refine CW.region ?_
  refine WP.al .n z31_C fun b1 => ?_
  refine WP.s .n (O.asg rfl) ?_
  refine WP.nil ?_
  refine QE.next ?_
  refine CW.seq ?_
  refine CW.seq ?_
  refine CW.region ?_
  refine WP.s .n (O.mv rfl) ?_
  refine WP.s .n (O.fn fn51 (evs.c rfl evs.nil) (c_quad_Valid a)) ?_
  refine WP.s .n (O.asg rfl) ?_
  refine WP.nil ?_
  refine QE.next ?_
  refine CW.seq ?_
  refine CW.region ?_
  refine WP.s .n (O.mv rfl) ?_
  refine WP.s .n (O.ne rfl rfl) ?_
  refine WP.nil ?_
  refine QE.next ?_
  refine CW.condD rfl (fun h_t10 => ?_) (fun h_t10 => ?_)
  · refine CW.seq ?_
    refine CW.region ?_
    refine WP.s .n (O.bld lit31_C rfl evp.n (.nil _)) ?_
    refine WP.s .n (O.mv rfl) ?_
    refine WP.t .n (O.stW (l := kC) (u := 0) 0 rfl rfl rfl ty31 rfl (VP.le_refl _)) ?_
    refine WP.s .n (O.asg rfl) ?_
    refine WP.nil ?_
    refine QE.next ?_
    refine CW.ret ?_
    refine QE.thenR ?_
    refine ST.obtold 0 rfl (OB.box_eq (y := (qvalV a x)) (qv_1 h_t10).1.symm) ?_
    refine ST.told 5 rfl (is_eq (y := (qvalE a x)) (qv_1 h_t10).2.symm) ?_
    exact QE.done (.inl rfl) rfl (ResOk.c rfl (mem_at 0 rfl) ty31 (ResOk.t rfl ResOk.nil)) (OImp.sub (List.nil_sublist _)) ⟨rfl, rfl⟩
  · refine CW.skip ?_
    refine QE.next ?_
    refine CW.seq ?_
    refine CW.seq ?_
    refine CW.region ?_
    refine WP.s .n (O.mv rfl) ?_
    refine WP.s .n (O.lenS rfl Try.underlying27) ?_
    refine WP.s .n (O.mv rfl) ?_
    refine WP.s .n (O.lenS rfl Try.underlying67) ?_
    refine WP.s .n (O.ne rfl rfl) ?_
    refine WP.nil ?_
    refine QE.next ?_
    refine CW.condD rfl (fun h_t17 => ?_) (fun h_t17 => ?_)
    · refine CW.seq ?_
      refine CW.region ?_
      refine WP.s .n (O.bld lit31_C rfl evp.n (.nil _)) ?_
      refine WP.t .n (O.stW (l := kC) (u := 0) 0 rfl rfl rfl ty31 rfl (VP.le_refl _)) ?_
      refine WP.s .n (O.asg rfl) ?_
      refine WP.nil ?_
      refine QE.next ?_
      refine CW.ret ?_
      refine QE.thenR ?_
      refine ST.obtold 0 rfl (OB.box_eq (y := (qvalV a x)) (qv_2 h_t10 (by omega)).1.symm) ?_
      refine ST.told 5 rfl (is_eq (y := (qvalE a x)) (qv_2 h_t10 (by omega)).2.symm) ?_
      exact QE.done (.inl rfl) rfl (ResOk.c rfl (mem_at 0 rfl) ty31 (ResOk.t rfl ResOk.nil)) (OImp.sub (List.nil_sublist _)) ⟨rfl, rfl⟩
    · refine CW.skip ?_
      refine QE.next ?_
      refine CW.seq ?_
      have hM := (quad_ok (a := a) (by omega)).1
      refine CW.region ?_
      refine WP.s .n (O.mv rfl) ?_
      refine WP.s .n (O.mv rfl) ?_
      refine WP.s .n (O.mv rfl) ?_
      refine WP.s .n (O.fn fn114 (evs.c rfl (evs.c rfl (evs.c rfl evs.nil))) (c_quad_product n a x x (by first | assumption | exact hM.z | exact hM.n | exact ⟨sqm_rb hM, by omega⟩ | (rw [hM.q 0 hM.n0]; omega) | (have := hM.n; omega)) (by first | assumption | exact hM.z | exact hM.n | exact ⟨sqm_rb hM, by omega⟩ | (rw [hM.q 0 hM.n0]; omega) | (have := hM.n; omega)) (by first | assumption | exact hM.z | exact hM.n | exact ⟨sqm_rb hM, by omega⟩ | (rw [hM.q 0 hM.n0]; omega) | (have := hM.n; omega)) (by first | assumption | exact hM.z | exact hM.n | exact ⟨sqm_rb hM, by omega⟩ | (rw [hM.q 0 hM.n0]; omega) | (have := hM.n; omega)) (by first | assumption | exact hM.z | exact hM.n | exact ⟨sqm_rb hM, by omega⟩ | (rw [hM.q 0 hM.n0]; omega) | (have := hM.n; omega)) (by first | assumption | exact hM.z | exact hM.n | exact ⟨sqm_rb hM, by omega⟩ | (rw [hM.q 0 hM.n0]; omega) | (have := hM.n; omega)) (by first | assumption | exact hM.z | exact hM.n | exact ⟨sqm_rb hM, by omega⟩ | (rw [hM.q 0 hM.n0]; omega) | (have := hM.n; omega)) (by first | assumption | exact hM.z | exact hM.n | exact ⟨sqm_rb hM, by omega⟩ | (rw [hM.q 0 hM.n0]; omega) | (have := hM.n; omega)))) ?_
      refine WP.t .n (O.stW (l := kC) (u := dotV (combV x a) x) 0 rfl rfl rfl ty31 rfl (VP.le_refl _)) ?_
      refine WP.s .n (O.asg rfl) ?_
      refine WP.nil ?_
      refine QE.next ?_
      refine CW.ret ?_
      refine ST.obtold 0 rfl (OB.box_eq (y := (qvalV a x)) (qv_3 h_t10 (by omega)).1.symm) ?_
      refine ST.told 5 rfl (is_eq (y := (qvalE a x)) (qv_3 h_t10 (by omega)).2.symm) ?_
      exact QE.done (.inl rfl) rfl (ResOk.c rfl (mem_at 0 rfl) ty31 (ResOk.t rfl ResOk.nil)) (OImp.sub (List.nil_sublist _)) ⟨rfl, rfl⟩

set_option maxRecDepth 20000 in
set_option maxHeartbeats 1000000 in
theorem c_law22_six  : Fn Try.prog 133 [] ((kSl (kSl kC)).is [[2, 1], [1, 2]]) := by
  refine Con.enter Try.func133 rfl rfl fun m w => ?_
  refine CW.seq ?_
  refine CW.region ?_
  refine WP.s .n (O.asg rfl) ?_
  refine WP.nil ?_
  refine QE.next ?_
  refine CW.seq ?_
  refine CW.region ?_
  refine WP.s .n (O.asg rfl) ?_
  refine WP.nil ?_
  refine QE.next ?_
  refine CW.seq ?_
  refine CW.region ?_
  refine WP.s .n (O.asg rfl) ?_
  refine WP.s .n (O.asg rfl) ?_
  refine WP.nil ?_
  refine QE.next ?_
  refine CW.seq ?_
  refine CW.region ?_
  refine WP.s .n (O.mv rfl) ?_
  refine WP.s .n (O.fn fn74 (evs.l rfl (i64_int (by omega)) evs.nil) (c_zint_Of 2)) ?_
  refine WP.s .n (O.fn fn74 (evs.l rfl (i64_int (by omega)) evs.nil) (c_zint_Of 1)) ?_
  refine WP.s .n (O.bs Try.underlying27 el31_C (evl.c rfl (evl.c rfl evl.n)) rfl (by decide)) ?_
  refine ST.nilrow 31 kC ?_
  refine WP.ap 0 .n rfl rfl rfl (VP.le_refl _) Try.underlying27 el31_C (by simp) fun v1 => ?_
  refine WP.s .n (O.asg rfl) ?_
  refine WP.nil ?_
  refine QE.next ?_
  refine CW.seq ?_
  refine CW.region ?_
  refine WP.s .n (O.mv rfl) ?_
  refine WP.s .n (O.fn fn74 (evs.l rfl (i64_int (by omega)) evs.nil) (c_zint_Of 1)) ?_
  refine WP.s .n (O.fn fn74 (evs.l rfl (i64_int (by omega)) evs.nil) (c_zint_Of 2)) ?_
  refine WP.s .n (O.bs Try.underlying27 el31_C (evl.c rfl (evl.c rfl evl.n)) rfl (by decide)) ?_
  refine ST.nilrow 31 kC ?_
  refine WP.ap 0 .n rfl rfl rfl (VP.le_refl _) Try.underlying27 el31_C (by simp) fun v2 => ?_
  refine WP.s .n (O.asg rfl) ?_
  refine WP.nil ?_
  refine QE.next ?_
  refine CW.seq ?_
  refine ST.freeze 1 rfl (.keep (i := 0) rfl (.keep (i := 1) rfl (.hit (i := 2) rfl (.keep (i := 3) rfl (.keep (i := 4) rfl (.keep (i := 5) rfl (.keep (i := 6) rfl (.keep (i := 7) rfl (.hit (i := 8) rfl (.keep (i := 9) rfl (.keep (i := 10) rfl (.keep (i := 11) rfl (.keep (i := 12) rfl (.keep (i := 13) rfl .nil)))))))))))))) ?_
  refine ST.freeze 0 rfl (.keep (i := 0) rfl (.keep (i := 1) rfl (.keep (i := 2) rfl (.hit (i := 3) rfl (.keep (i := 4) rfl (.keep (i := 5) rfl (.keep (i := 6) rfl (.keep (i := 7) rfl (.keep (i := 8) rfl (.keep (i := 9) rfl (.keep (i := 10) rfl (.keep (i := 11) rfl (.keep (i := 12) rfl (.hit (i := 13) rfl .nil)))))))))))))) ?_
  refine CW.region ?_
  refine WP.s .n (O.mv rfl) ?_
  refine WP.s .n (O.mv rfl) ?_
  refine WP.s .n (O.mv rfl) ?_
  refine WP.s .n (O.bs Try.underlying67 el27_sl_C (evl.c rfl (evl.c rfl evl.n)) rfl (by decide)) ?_
  refine ST.nilrow 27 (kSl kC) ?_
  refine WP.ap 0 .n rfl rfl rfl (VP.le_refl _) Try.underlying67 el27_sl_C (by simp) fun v3 => ?_
  refine WP.s .n (O.asg rfl) ?_
  refine WP.nil ?_
  refine QE.next ?_
  refine CW.ret ?_
  refine ST.freeze 0 rfl (.hit (i := 0) rfl (.keep (i := 1) rfl (.keep (i := 2) rfl (.keep (i := 3) rfl (.keep (i := 4) rfl (.keep (i := 5) rfl (.keep (i := 6) rfl (.keep (i := 7) rfl (.keep (i := 8) rfl (.keep (i := 9) rfl (.keep (i := 10) rfl (.keep (i := 11) rfl (.keep (i := 12) rfl (.keep (i := 13) rfl (.keep (i := 14) rfl (.keep (i := 15) rfl (.keep (i := 16) rfl (.keep (i := 17) rfl (.hit (i := 18) rfl .nil))))))))))))))))))) ?_
  exact QE.done (.inl rfl) rfl (ResOk.t rfl ResOk.nil) (OImp.sub (List.nil_sublist _)) ⟨rfl, rfl⟩

set_option maxRecDepth 20000 in
set_option maxHeartbeats 1000000 in
theorem c_law22_alive  : Fn Try.prog 66 [] (kBool.is true) := by
  refine Con.enter Try.func66 rfl rfl fun m w => ?_
  refine CW.seq ?_
  refine CW.region ?_
  refine WP.s .n (O.asg rfl) ?_
  refine WP.nil ?_
  refine QE.next ?_
  refine CW.seq ?_
  refine CW.region ?_
  refine WP.s .n (O.asg rfl) ?_
  refine WP.nil ?_
  refine QE.next ?_
  refine CW.seq ?_
  refine CW.region ?_
  refine WP.s .n (O.mv rfl) ?_
  refine WP.s .n (O.fn fn74 (evs.l rfl (i64_int (by omega)) evs.nil) (c_zint_Of 1)) ?_
  refine WP.s .n (O.fn fn74 (evs.l rfl (i64_int (by omega)) evs.nil) (c_zint_Of (-1))) ?_
  refine WP.s .n (O.bs Try.underlying27 el31_C (evl.c rfl (evl.c rfl evl.n)) rfl (by decide)) ?_
  refine ST.nilrow 31 kC ?_
  refine WP.ap 0 .n rfl rfl rfl (VP.le_refl _) Try.underlying27 el31_C (by simp) fun v1 => ?_
  refine WP.s .n (O.asg rfl) ?_
  refine WP.nil ?_
  refine QE.next ?_
  refine CW.seq ?_
  have hs1 : Sm 1 := Sm_of (n := 2) (by decide) (by decide)
  have hsm : Sm (-1) := Sm_of (n := 2) (by decide) (by decide)
  have hs2 : Sm 2 := Sm_of (n := 2) (by decide) (by decide)
  have hx1 : ∀ x ∈ ([1, -1] : List Int), Sm x := by intro x hx; rcases List.mem_cons.1 hx with rfl | hx; exact hs1; rcases List.mem_cons.1 hx with rfl | hx; exact hsm; cases hx
  have hs6 : ∀ r ∈ ([[2, 1], [1, 2]] : List (List Int)), ∀ x ∈ r, Sm x := by intro r hr x hx; simp at hr; rcases hr with rfl | rfl <;> simp at hx <;> rcases hx with rfl | rfl <;> assumption
  have hx6 : SzL 1 ([1, -1] : List Int) := by intro i; match i with | 0 => exact (by decide : (1 : Int).natAbs < 2 ^ 1) | 1 => exact (by decide : (-1 : Int).natAbs < 2 ^ 1) | n + 2 => exact Sz.zero 1
  refine CW.region ?_
  refine WP.s .n (O.fn fn133 evs.nil (c_law22_six)) ?_
  refine WP.s .n (O.mv rfl) ?_
  refine ST.freeze 0 rfl (.keep (i := 0) rfl (.hit (i := 1) rfl (.keep (i := 4) rfl (.keep (i := 5) rfl (.keep (i := 6) rfl (.keep (i := 7) rfl (.hit (i := 8) rfl (.keep (i := 10) rfl (.hit (i := 11) rfl .nil))))))))) ?_
  refine WP.s .n (O.fn fn53 (evs.l rfl (slslC_Z (by first | exact hx1 | exact hs6 | exact hs6 _ (by simp) | (intro x hx; simp at hx; rcases hx with rfl | rfl <;> assumption) | (simp; exact ⟨hs1, hsm⟩))) (evs.l rfl (slC_Z (by first | exact hx1 | exact hs6 | exact hs6 _ (by simp) | (intro x hx; simp at hx; rcases hx with rfl | rfl <;> assumption) | (simp; exact ⟨hs1, hsm⟩))) evs.nil)) (c_quad_Value 1 [[2, 1], [1, 2]] [1, (-1)] hx6 (by decide))) ?_
  refine WP.s .n (O.mv rfl) ?_
  refine WP.s .n (O.ext rfl rfl) ?_
  refine WP.s .n (O.ext rfl rfl) ?_
  refine WP.al .n z31_C fun b2 => ?_
  refine WP.t .n (O.stW (l := kC) (u := qvalV [[2, 1], [1, 2]] [1, (-1)]) 0 rfl rfl rfl ty31 rfl (VP.le_refl _)) ?_
  refine WP.s .n (O.asg rfl) ?_
  refine WP.nil ?_
  refine QE.next ?_
  refine CW.seq ?_
  refine ST.obtold 0 rfl (OB.box_eq (y := 2) (by decide +kernel)) ?_
  refine ST.obtold (b' := OB.box b2 31 kI (canon 2)) 0 rfl OB.C_I ?_
  refine CW.draw (Γ := [.fr ((kInt .i64).is (qvalE [[2, 1], [1, 2]] [1, (-1)])), .fr (kBool.is true), .fr (kBool.is true), .fr (kI.is (canon 2)), .fr (kC.is 2), .fr (kBool.is true), .fr (kBool.is true), .fr (kBool.is true), .fr (VP.ex (.pointer (some ⟨b2, 1, none⟩))), .fr (kN.is ((canon 2).2)), .fr ((kInt .i64).is (((canon 2).2).length : Int)), .fr (kBool.is true), .fr (kBool.is true)]) (lates := [false, false, false, false, false, false, false, false, false, false, false, false, false]) (by kernel_rfl) (Chk.of rfl (by kernel_rfl) rfl) (fun _ _ _ _ _ h => h) (fun q_ x_ h_ => ?_) (fun σ1 => ?_)
  · match q_, h_ with
    | 0, h_ => cases h_; exact Ob.f rfl .n fun N => (O.mv rfl)
    | 1, h_ => cases h_; exact Ob.f rfl .n fun N => (OpOk.le (O.eq rfl rfl) (is_eq (decide_eq_true (by decide +kernel))))
    | 2, h_ => cases h_; exact Ob.f rfl .n fun N => (O.mv rfl)
    | 3, h_ => cases h_; exact Ob.f rfl (.g rfl rfl) fun N => (O.ld rfl (mem_app N (mem_at 0 rfl)) (Lens.id _) ty31 rfl)
    | 4, h_ => cases h_; exact Ob.f rfl (.g rfl rfl) fun N => (O.fn fn74 (evs.l rfl (i64_int (by omega)) evs.nil) (c_zint_Of 2))
    | 5, h_ => cases h_; exact Ob.f rfl (.g rfl rfl) fun N => (OpOk.le (O.fn fn29 (evs.c rfl (evs.l rfl (kC_I _) evs.nil)) (c_law22_eq (canon 2) (canon 2))) (is_eq (by simp)))
    | 6, h_ => cases h_; exact Ob.f rfl .n fun N => (O.pickT rfl rfl)
    | 7, h_ => cases h_; exact Ob.f rfl .n fun N => (O.mv rfl)
    | 8, h_ => cases h_; exact Ob.f rfl (.g rfl rfl) fun N => (O.fa rfl fld31_1 rfl)
    | 9, h_ => cases h_; exact Ob.f rfl (.g rfl rfl) fun N => (O.ld rfl (mem_app N (mem_at 0 rfl)) (Lens.snd (Lens.id _)) ty29 rfl)
    | 10, h_ => cases h_; exact Ob.f rfl (.g rfl rfl) fun N => (O.lenS rfl Try.underlying29)
    | 11, h_ => cases h_; exact Ob.f rfl (.g rfl rfl) fun N => (OpOk.le (O.eq rfl rfl) (is_eq (by simp [canon, limbs_pos, limbs_zero])))
    | 12, h_ => cases h_; exact Ob.f rfl .n fun N => (O.pickT rfl rfl)
    | n_ + 13, h_ => simp at h_
  refine WP.s .n (O.asg rfl) ?_
  refine WP.nil ?_
  refine QE.next ?_
  refine CW.ret ?_
  exact QE.done (.inl rfl) rfl (ResOk.t rfl ResOk.nil) (OImp.sub (List.nil_sublist _)) ⟨rfl, rfl⟩

set_option maxRecDepth 20000 in
set_option maxHeartbeats 1000000 in
theorem c_mat_eachRR (fid : FuncId) (caps : List VP) (F : List Int → List Int) (l : List (List Int)) (hok : FnOk Try.prog fid) (hF : ∀ x, x ∈ l → Fn Try.prog fid ((kSl kZ).is x :: caps) ((kSl kC).is (F x))) : Fn Try.prog 136 [(kSl (kSl kZ)).is l, VP.clo fid caps] ((kSl (kSl kC)).is (l.map F)) := by
  refine Con.enter Try.func136 rfl rfl fun m w => ?_
  refine ST.fact (i := 0) rfl sl_len fun hB => ?_
  refine CW.seq ?_
  refine CW.region ?_
  refine WP.s .n (O.asg rfl) ?_
  refine WP.nil ?_
  refine QE.next ?_
  refine CW.seq ?_
  refine CW.region ?_
  refine WP.s .n (O.mv rfl) ?_
  refine WP.s .n (O.lenS rfl Try.underlying67) ?_
  refine WP.mk0 l.length .n rfl rfl rfl (by omega) Try.underlying67 el27_sl_C z27_sl_C fun v1 => ?_
  refine WP.s .n (O.asg rfl) ?_
  refine WP.nil ?_
  refine QE.next ?_
  refine CW.seq ?_
  refine CW.seq ?_
  refine CW.region ?_
  refine WP.s .n (O.mv rfl) ?_
  refine WP.s .n (O.lenS rfl Try.underlying67) ?_
  refine WP.s .n (O.mv rfl) ?_
  refine WP.nil ?_
  refine QE.next ?_
  refine CW.block ?_
  refine CW.loop2 (fun (i : Nat) (v : Value) => i ≤ l.length) (fun (i : Nat) (v : Value) => [(0, (kSl (kSl kZ)).is l), (1, VP.clo fid caps), (5, VP.ex v), (11, (kSl (kSl kZ)).is l), (12, (kInt .i64).is (l.length : Int)), (13, (kInt .i64).is (i : Int))]) (fun (i : Nat) (v : Value) => [OB.row v 27 (kSl kC) ((l.take i).map F)]) (fun (i : Nat) (v : Value) => l.length - i) 0 v1 (by omega) (Imp.cons rfl (Imp.cons rfl (Imp.cons rfl (Imp.cons rfl (Imp.cons rfl (Imp.consLe rfl (is_eq (y := (0 : Int)) (by first | rfl | omega | assumption)) Imp.nil)))))) (OImp.os (OS.keepLe (OB.row_eq (by first | rfl | omega | assumption)) OS.nil)) ?_
  intro i v hi
  refine CW.seq ?_
  refine CW.region ?_
  refine WP.s .n (O.lt rfl rfl) ?_
  refine WP.nil ?_
  refine QE.next ?_
  refine CW.seq ?_
  refine CW.condD rfl (fun h_t14 => ?_) (fun h_t14 => ?_)
  · refine CW.skip ?_
    refine QE.next ?_
    refine CW.seq ?_
    refine CW.block ?_
    refine CW.seq ?_
    refine CW.region ?_
    refine WP.s .n (O.ix i rfl rfl Try.underlying67 ty27 rfl (v := (l.getD i [])) (gd [] (by omega))) ?_
    refine WP.s .n (O.ldP rfl ty27) ?_
    refine WP.s .n (O.asg rfl) ?_
    refine WP.nil ?_
    refine QE.next ?_
    refine CW.region ?_
    refine WP.s .n (O.mv rfl) ?_
    refine WP.s .n (O.mv rfl) ?_
    refine WP.s .n (O.mv rfl) ?_
    refine WP.s .n (O.clo rfl hok (evs.c rfl evs.nil) (hF _ (getD_mem [] (by omega)))) ?_
    refine WP.s .n (O.bs Try.underlying67 el27_sl_C (evl.c rfl evl.n) rfl (by decide)) ?_
    refine WP.ap 0 .n rfl rfl rfl (VP.le_refl _) Try.underlying67 el27_sl_C (by simp; omega) fun v2 => ?_
    refine WP.s .n (O.asg rfl) ?_
    refine WP.nil ?_
    refine QE.blkN ?_
    refine QE.next ?_
    refine CW.region ?_
    refine WP.s .n (O.add rfl rfl (c := ((i : Int) + 1)) (w64 (by omega))) ?_
    refine WP.s .n (O.mv rfl) ?_
    refine WP.nil ?_
    refine ST.obtold 0 rfl (OB.row_eq (ys := ((l.take (i + 1)).map F)) (map_take_app (by omega))) ?_
    exact QE.round2 (i + 1) v2 (by omega) (by omega) (Imp.cons rfl (Imp.cons rfl (Imp.cons rfl (Imp.cons rfl (Imp.cons rfl (Imp.consLe rfl (is_eq (y := (((i + 1) : Nat) : Int)) (by first | rfl | omega | assumption)) Imp.nil)))))) (OImp.refl _)
  · refine CW.exit ?_
    refine QE.thenE ?_
    refine QE.thenE ?_
    refine QE.blkH ?_
    refine QE.next ?_
    refine CW.seq ?_
    refine CW.region ?_
    refine WP.s .n (O.mv rfl) ?_
    refine WP.s .n (O.asg rfl) ?_
    refine WP.nil ?_
    refine QE.next ?_
    refine CW.ret ?_
    refine ST.freeze 0 rfl (.keep (i := 0) rfl (.keep (i := 1) rfl (.hit (i := 4) rfl (.hit (i := 5) rfl (.keep (i := 11) rfl (.keep (i := 12) rfl (.keep (i := 13) rfl (.keep (i := 14) rfl (.hit (i := 24) rfl .nil))))))))) ?_
    refine ST.told 4 rfl (is_eq (y := (l.map F)) (by rw [List.take_of_length_le (by omega)])) ?_
    exact QE.done (.inl rfl) rfl (ResOk.t rfl ResOk.nil) (OImp.sub (List.nil_sublist _)) ⟨rfl, rfl⟩

end Fw


/- Plain facts: Gram-Schmidt data when a row grows by another one, and when two rows are exchanged. -/
set_option linter.unusedVariables false
set_option linter.unusedSimpArgs false
set_option exponentiation.threshold 400
namespace Fw
open Go

theorem gsE_succ (G : Nat → Nat → Rat) (k x y) : gsE G (k + 1) x y = gsE G k x y - gsE G k x k * gsE G k k y / gsE G k k k := rfl
/-! ### Row i grows by t times row j -/
def cI (i : Nat) (t : Rat) (x : Nat) : Rat := if x = i then t else 0
theorem cI_ne {i x t} (h : x ≠ i) : cI i t x = 0 := if_neg h
theorem cI_eq {i t} : cI i t i = t := if_pos rfl
def rowQ (G : Nat → Nat → Rat) (i j : Nat) (t : Rat) : Nat → Nat → Rat := fun x y => G x y + cI i t x * G j y + cI i t y * G x j + cI i t x * cI i t y * G j j
theorem gsE_row {G : Nat → Nat → Rat} {i j : Nat} {t : Rat} (hij : j < i) : ∀ k, k ≤ j → (∀ l, l < k → gsE G l l l ≠ 0) → ∀ x y, gsE (rowQ G i j t) k x y = gsE G k x y + cI i t x * gsE G k j y + cI i t y * gsE G k x j + cI i t x * cI i t y * gsE G k j j
  | 0, _, _, x, y => rfl
  | k + 1, hk, hn, x, y => by
    have ih := gsE_row (G := G) (t := t) hij k (by omega) (fun l hl => hn l (by omega))
    have h0 := hn k (by omega)
    have ck : cI i t k = 0 := cI_ne (by omega)
    rw [gsE_succ, ih x y, ih x k, ih k y, ih k k, ck, gsE_succ, gsE_succ, gsE_succ, gsE_succ]
    grind
theorem gsE_row_hi {G : Nat → Nat → Rat} {i j : Nat} {t : Rat} (hij : j < i) : ∀ k, j < k → (∀ l, l < k → gsE G l l l ≠ 0) → ∀ x y, gsE (rowQ G i j t) k x y = gsE G k x y
  | 0, hk, _, x, y => absurd hk (by omega)
  | k + 1, hk, hn, x, y => by
    by_cases e : j = k
    · subst e
      have ih := gsE_row (G := G) (t := t) hij j (Nat.le_refl _) (fun l hl => hn l (by omega))
      have h0 := hn j (by omega)
      have cj : cI i t j = 0 := cI_ne (by omega)
      rw [gsE_succ, ih x y, ih x j, ih j y, ih j j, cj, gsE_succ]
      grind
    · have ih := gsE_row_hi (G := G) (t := t) hij k (by omega) (fun l hl => hn l (by omega))
      rw [gsE_succ, ih x y, ih x k, ih k y, ih k k, gsE_succ]
theorem gsE_row_piv {G : Nat → Nat → Rat} {i j : Nat} {t : Rat} (hij : j < i) (k : Nat) (hn : ∀ l, l < k → gsE G l l l ≠ 0) : gsE (rowQ G i j t) k k k = gsE G k k k := by
  by_cases h : k ≤ j
  · rw [gsE_row hij k h hn, cI_ne (show k ≠ i by omega)]; grind
  · exact gsE_row_hi hij k (by omega) hn k k
theorem gsD_row {G : Nat → Nat → Rat} {i j : Nat} {t : Rat} (hij : j < i) : ∀ k, (∀ l, l < k → gsE G l l l ≠ 0) → gsD (rowQ G i j t) k = gsD G k
  | 0, _ => rfl
  | k + 1, hn => by
    show gsD (rowQ G i j t) k * gsE (rowQ G i j t) k k k = gsD G k * gsE G k k k
    rw [gsD_row hij k (fun l hl => hn l (by omega)), gsE_row_piv hij k (fun l hl => hn l (by omega))]

/-! ### Rows p and p + 1 are exchanged -/
def sg (p x : Nat) : Nat := if x = p then p + 1 else if x = p + 1 then p else x
theorem sg_p (p) : sg p p = p + 1 := if_pos rfl
theorem sg_q (p) : sg p (p + 1) = p := by unfold sg; rw [if_neg (by omega), if_pos rfl]
theorem sg_ne {p x} (h : x ≠ p) (h2 : x ≠ p + 1) : sg p x = x := by unfold sg; rw [if_neg h, if_neg h2]
def swpQ (G : Nat → Nat → Rat) (p : Nat) : Nat → Nat → Rat := fun x y => G (sg p x) (sg p y)
theorem gsE_swp_lo {G : Nat → Nat → Rat} {p : Nat} : ∀ k, k ≤ p → ∀ x y, gsE (swpQ G p) k x y = gsE G k (sg p x) (sg p y)
  | 0, _, x, y => rfl
  | k + 1, hk, x, y => by
    have ih := gsE_swp_lo (G := G) (p := p) k (by omega)
    rw [gsE_succ, ih x y, ih x k, ih k y, ih k k, gsE_succ, sg_ne (show k ≠ p by omega) (by omega)]
/-- behind one step more, of the exchanged rows -/
theorem gsE_swp_1 {G : Nat → Nat → Rat} {p : Nat} (x y) : gsE (swpQ G p) (p + 1) x y = gsE G p (sg p x) (sg p y) - gsE G p (sg p x) (p + 1) * gsE G p (p + 1) (sg p y) / gsE G p (p + 1) (p + 1) := by
  rw [gsE_succ, gsE_swp_lo p (Nat.le_refl _), gsE_swp_lo p (Nat.le_refl _), gsE_swp_lo p (Nat.le_refl _), gsE_swp_lo p (Nat.le_refl _), sg_p]
theorem inv_div {D c : Rat} (hc : c ≠ 0) (hD : D ≠ 0) : (D / c)⁻¹ = c / D := Rat.inv_eq_of_mul_eq_one (by grind)
theorem schur2_ring (A x1 x2 y1 y2 a b c u v w : Rat) (hu : c * u = 1) (hv : a * v = 1) (hw : (a * c - b * b) * w = 1) : A - x2 * y2 * u - (x1 - x2 * b * u) * (y1 - b * y2 * u) * (c * w) = A - x1 * y1 * v - (x2 - x1 * b * v) * (y2 - b * y1 * v) * (a * w) := by
  grind
theorem schur2 {A x1 x2 y1 y2 a b c : Rat} (h1 : a ≠ 0) (h2 : c ≠ 0) (h3 : c - b * b / a ≠ 0) : A - x2 * y2 / c - (x1 - x2 * b / c) * (y1 - b * y2 / c) / (a - b * b / c) = A - x1 * y1 / a - (x2 - x1 * b / a) * (y2 - b * y1 / a) / (c - b * b / a) := by
  have h4 : a * c - b * b ≠ 0 := by
    intro e
    apply h3
    have : c - b * b / a = (a * c - b * b) / a := by grind
    rw [this, e]; grind
  have e1 : a - b * b / c = (a * c - b * b) / c := by grind
  have e2 : c - b * b / a = (a * c - b * b) / a := by grind
  have i1 := inv_div h2 h4
  have i2 := inv_div h1 h4
  have hw : (a * c - b * b) * (a * c - b * b)⁻¹ = 1 := Rat.mul_inv_cancel _ h4
  have hu : c * c⁻¹ = 1 := Rat.mul_inv_cancel _ h2
  have hv : a * a⁻¹ = 1 := Rat.mul_inv_cancel _ h1
  have key := schur2_ring A x1 x2 y1 y2 a b c c⁻¹ a⁻¹ (a * c - b * b)⁻¹ hu hv hw
  rw [e1, e2, Rat.div_def _ ((a * c - b * b) / c), Rat.div_def _ ((a * c - b * b) / a), i1, i2]
  simp only [Rat.div_def]
  exact key
theorem gsE_swp_2 {G : Nat → Nat → Rat} {p : Nat} (hs : ∀ i j, G i j = G j i) (h1 : gsE G p p p ≠ 0) (h2 : gsE G p (p + 1) (p + 1) ≠ 0) (h3 : gsE G (p + 1) (p + 1) (p + 1) ≠ 0) {x y} (hx : p + 1 < x) (hy : p + 1 < y) : gsE (swpQ G p) (p + 2) x y = gsE G (p + 2) x y := by
  have s := gsE_sym hs p
  rw [gsE_succ (swpQ G p) (p + 1), gsE_swp_1, gsE_swp_1, gsE_swp_1, gsE_swp_1, sg_q, sg_ne (show x ≠ p by omega) (by omega), sg_ne (show y ≠ p by omega) (by omega)]
  rw [gsE_succ] at h3
  rw [gsE_succ G (p + 1), gsE_succ G p, gsE_succ G p, gsE_succ G p, gsE_succ G p]
  rw [s p (p + 1)] at h3
  rw [s p y, s (p + 1) y, s p (p + 1)]
  generalize gsE G p x y = A at *
  generalize gsE G p x p = x1 at *
  generalize gsE G p x (p + 1) = x2 at *
  generalize gsE G p y p = y1 at *
  generalize gsE G p y (p + 1) = y2 at *
  generalize gsE G p p p = a at *
  generalize gsE G p (p + 1) p = b at *
  generalize gsE G p (p + 1) (p + 1) = c at *
  exact schur2 h1 h2 h3
theorem gsE_swp_hi {G : Nat → Nat → Rat} {p : Nat} (hs : ∀ i j, G i j = G j i) (h1 : gsE G p p p ≠ 0) (h2 : gsE G p (p + 1) (p + 1) ≠ 0) (h3 : gsE G (p + 1) (p + 1) (p + 1) ≠ 0) : ∀ k, p + 2 ≤ k → ∀ x y, k ≤ x → k ≤ y → gsE (swpQ G p) k x y = gsE G k x y
  | 0, hk, _, _, _, _ => absurd hk (by omega)
  | k + 1, hk, x, y, hx, hy => by
    by_cases e : k = p + 1
    · subst e; exact gsE_swp_2 hs h1 h2 h3 (by omega) (by omega)
    · have ih := gsE_swp_hi hs h1 h2 h3 k (by omega)
      rw [gsE_succ, ih x y (by omega) (by omega), ih x k (by omega) (Nat.le_refl _), ih k y (Nat.le_refl _) (by omega), ih k k (Nat.le_refl _) (Nat.le_refl _), gsE_succ]
end Fw


/- Plain facts: the program's Gram-Schmidt numbers when a row grows by another one, and when two rows are exchanged. -/
set_option linter.unusedVariables false
set_option linter.unusedSimpArgs false
set_option exponentiation.threshold 400
namespace Fw
open Go

theorem uE_q {G : Nat → Nat → Int} (hs : SymG G) {k : Nat} (hp : PosU G k) {i j : Nat} (hi : k ≤ i) (hj : k ≤ j) : (uE G k i j : Rat) = gsD (qG G) k * gsE (qG G) k i j := (ugs hs k hp).e i j hi hj
theorem uD_q {G : Nat → Nat → Int} (hs : SymG G) {k : Nat} (hp : PosU G k) : (uD G k : Rat) = gsD (qG G) k := (ugs hs k hp).d
theorem piv_pos {G : Nat → Nat → Int} (hs : SymG G) {k n : Nat} (hp : PosU G n) (hk : k < n) : 0 < gsE (qG G) k k k := (gsE_pos hs (hp.le (by omega))).2 (hp k hk)
theorem piv_ne {G : Nat → Nat → Int} (hs : SymG G) {k n : Nat} (hp : PosU G n) (hk : k < n) : gsE (qG G) k k k ≠ 0 := fun e => by
  have := piv_pos hs hp hk; rw [e] at this; exact absurd this (by decide)
/-- pivots alone tell -/
theorem posU_of {G : Nat → Nat → Int} (hs : SymG G) : ∀ n, (∀ k, k < n → 0 < gsE (qG G) k k k) → PosU G n
  | 0, _ => fun l hl => absurd hl (by omega)
  | n + 1, h => by
    have ih := posU_of hs n (fun k hk => h k (by omega))
    intro l hl
    by_cases e : l = n
    · subst e; exact (gsE_pos hs ih).1 (h l (by omega))
    · exact ih l (by omega)

/-! ### A row grows -/
def rowI (G : Nat → Nat → Int) (i j : Nat) (q : Int) : Nat → Nat → Int := fun x y => G x y + (if x = i then q else 0) * G j y + (if y = i then q else 0) * G x j + (if x = i then q else 0) * (if y = i then q else 0) * G j j
theorem qG_row (G i j q) : qG (rowI G i j q) = rowQ (qG G) i j (q : Rat) := by
  funext x y
  unfold qG rowI rowQ cI
  by_cases hx : x = i <;> by_cases hy : y = i <;> simp [hx, hy, Rat.intCast_add, Rat.intCast_mul] <;> grind
theorem rowI_sym {G i j q} (h : SymG G) : SymG (rowI G i j q) := fun x y => by
  unfold rowI; rw [h x y, h j y, h x j]
  by_cases hx : x = i <;> by_cases hy : y = i <;> simp [hx, hy] <;> omega
section
variable {G : Nat → Nat → Int} {i j n : Nat} {q : Int}
theorem rowI_pos (hs : SymG G) (hp : PosU G n) (hij : j < i) : PosU (rowI G i j q) n := posU_of (rowI_sym hs) n fun k hk => by
  rw [qG_row, gsE_row_piv hij k (fun l hl => piv_ne hs hp (by omega))]; exact piv_pos hs hp hk
theorem rowI_uD (hs : SymG G) (hp : PosU G n) (hij : j < i) {k : Nat} (hk : k ≤ n) : uD (rowI G i j q) k = uD G k := by
  have h1 := uD_q (rowI_sym (i := i) (j := j) (q := q) hs) ((rowI_pos hs hp hij).le hk)
  rw [qG_row, gsD_row hij k (fun l hl => piv_ne hs hp (by omega)), ← uD_q hs (hp.le hk)] at h1
  exact_mod_cast h1
theorem rowI_lo (hs : SymG G) (hp : PosU G n) (hij : j < i) (hi : i < n) {k : Nat} (hk : k < j) : uE (rowI G i j q) k i k = uE G k i k + q * uE G k j k := by
  have h1 := uE_q (rowI_sym (i := i) (j := j) (q := q) hs) ((rowI_pos hs hp hij).le (show k ≤ n by omega)) (show k ≤ i by omega) (Nat.le_refl k)
  rw [qG_row, gsD_row hij k (fun l hl => piv_ne hs hp (by omega)), gsE_row hij k (by omega) (fun l hl => piv_ne hs hp (by omega)), cI_eq, cI_ne (show k ≠ i by omega)] at h1
  have h2 := uE_q hs (hp.le (show k ≤ n by omega)) (show k ≤ i by omega) (Nat.le_refl k)
  have h3 := uE_q hs (hp.le (show k ≤ n by omega)) (show k ≤ j by omega) (Nat.le_refl k)
  have h4 : (uE (rowI G i j q) k i k : Rat) = ((uE G k i k + q * uE G k j k : Int) : Rat) := by
    rw [h1, Rat.intCast_add, Rat.intCast_mul, h2, h3]; grind
  exact_mod_cast h4
theorem rowI_at (hs : SymG G) (hp : PosU G n) (hij : j < i) (hi : i < n) : uE (rowI G i j q) j i j = uE G j i j + q * uD G (j + 1) := by
  have h1 := uE_q (rowI_sym (i := i) (j := j) (q := q) hs) ((rowI_pos hs hp hij).le (show j ≤ n by omega)) (show j ≤ i by omega) (Nat.le_refl j)
  rw [qG_row, gsD_row hij j (fun l hl => piv_ne hs hp (by omega)), gsE_row hij j (Nat.le_refl _) (fun l hl => piv_ne hs hp (by omega)), cI_eq, cI_ne (show j ≠ i by omega)] at h1
  have h2 := uE_q hs (hp.le (show j ≤ n by omega)) (show j ≤ i by omega) (Nat.le_refl j)
  have h3 := uE_q hs (hp.le (show j ≤ n by omega)) (Nat.le_refl j) (Nat.le_refl j)
  have h4 : (uE (rowI G i j q) j i j : Rat) = ((uE G j i j + q * uE G j j j : Int) : Rat) := by
    rw [h1, Rat.intCast_add, Rat.intCast_mul, h2, h3]; grind
  exact_mod_cast h4
theorem rowI_hi (hs : SymG G) (hp : PosU G n) (hij : j < i) {k x : Nat} (hk : j < k) (hkx : k ≤ x) (hx : x < n) : uE (rowI G i j q) k x k = uE G k x k := by
  have h1 := uE_q (rowI_sym (i := i) (j := j) (q := q) hs) ((rowI_pos hs hp hij).le (show k ≤ n by omega)) hkx (Nat.le_refl k)
  rw [qG_row, gsD_row hij k (fun l hl => piv_ne hs hp (by omega)), gsE_row_hi hij k hk (fun l hl => piv_ne hs hp (by omega)), ← uE_q hs (hp.le (show k ≤ n by omega)) hkx (Nat.le_refl k)] at h1
  exact_mod_cast h1
theorem rowI_ne (hs : SymG G) (hp : PosU G n) (hij : j < i) {k x : Nat} (hxi : x ≠ i) (hkx : k ≤ x) (hx : x < n) : uE (rowI G i j q) k x k = uE G k x k := by
  by_cases hk : j < k
  · exact rowI_hi hs hp hij hk hkx hx
  · have h1 := uE_q (rowI_sym (i := i) (j := j) (q := q) hs) ((rowI_pos hs hp hij).le (show k ≤ n by omega)) hkx (Nat.le_refl k)
    rw [qG_row, gsD_row hij k (fun l hl => piv_ne hs hp (by omega)), gsE_row hij k (by omega) (fun l hl => piv_ne hs hp (by omega)), cI_ne hxi, cI_ne (show k ≠ i by omega)] at h1
    have h2 := uE_q hs (hp.le (show k ≤ n by omega)) hkx (Nat.le_refl k)
    have h4 : (uE (rowI G i j q) k x k : Rat) = (uE G k x k : Rat) := by rw [h1, h2]; grind
    exact_mod_cast h4
end

/-! ### Two rows are exchanged -/
def swpI (G : Nat → Nat → Int) (p : Nat) : Nat → Nat → Int := fun x y => G (sg p x) (sg p y)
theorem qG_swp (G p) : qG (swpI G p) = swpQ (qG G) p := rfl
theorem swpI_sym {G p} (h : SymG G) : SymG (swpI G p) := fun x y => h _ _
section
variable {G : Nat → Nat → Int} {p n : Nat}
/-- the pivot of the row that comes ahead -/
theorem swp_c (hs : SymG G) (hp : PosU G n) (h : p + 1 < n) : 0 < gsE (qG G) p (p + 1) (p + 1) ∧ gsE (qG G) p p p * gsE (qG G) (p + 1) (p + 1) (p + 1) = gsE (qG G) p p p * gsE (qG G) p (p + 1) (p + 1) - gsE (qG G) p (p + 1) p * gsE (qG G) p (p + 1) p := by
  have h1 := piv_pos hs hp (show p < n by omega)
  have h2 := piv_pos hs hp h
  have h3 := piv_ne hs hp (show p < n by omega)
  have hsy := gsE_sym (fun i j => by unfold qG; rw [hs i j] : ∀ i j, qG G i j = qG G j i) p p (p + 1)
  rw [gsE_succ] at h2 ⊢
  rw [hsy] at h2 ⊢
  generalize gsE (qG G) p p p = a at *
  generalize gsE (qG G) p (p + 1) p = b at *
  generalize gsE (qG G) p (p + 1) (p + 1) = c at *
  refine ⟨?_, by grind⟩
  have h4 : 0 ≤ b * b / a := by
    rw [Rat.div_def]
    exact Rat.mul_nonneg (by rcases Rat.le_total (a := 0) (b := b) with hb | hb; exact Rat.mul_nonneg hb hb; have := Rat.mul_nonneg (a := -b) (b := -b) (by grind) (by grind); grind) (Rat.le_of_lt (Rat.inv_pos.2 h1))
  grind
theorem swp_piv (hs : SymG G) (hp : PosU G n) (h : p + 1 < n) : ∀ k, k < n → 0 < gsE (qG (swpI G p)) k k k := by
  intro k hk
  rw [qG_swp]
  have hq : ∀ i j, qG G i j = qG G j i := fun i j => by unfold qG; rw [hs i j]
  obtain ⟨c1, c2⟩ := swp_c hs hp h
  have a1 := piv_pos hs hp (show p < n by omega)
  have b1 := piv_pos hs hp h
  have cn : gsE (qG G) p (p + 1) (p + 1) ≠ 0 := fun e => by rw [e] at c1; exact absurd c1 (by decide)
  rcases Nat.lt_trichotomy k p with h1 | h1 | h1
  · rw [gsE_swp_lo k (by omega), sg_ne (by omega) (by omega)]; exact piv_pos hs hp hk
  · rw [h1, gsE_swp_lo p (Nat.le_refl _), sg_p]; exact c1
  · by_cases h2 : k = p + 1
    · rw [h2, gsE_swp_1, sg_q, gsE_sym hq p p (p + 1)]
      have e : gsE (qG G) p p p - gsE (qG G) p (p + 1) p * gsE (qG G) p (p + 1) p / gsE (qG G) p (p + 1) (p + 1) = gsE (qG G) p p p * gsE (qG G) (p + 1) (p + 1) (p + 1) / gsE (qG G) p (p + 1) (p + 1) := by
        rw [c2]; grind
      rw [e, Rat.div_def]
      exact Rat.mul_pos (Rat.mul_pos a1 b1) (Rat.inv_pos.2 c1)
    · rw [gsE_swp_hi hq (piv_ne hs hp (by omega)) cn (piv_ne hs hp h) k (by omega) k k (Nat.le_refl _) (Nat.le_refl _)]
      exact piv_pos hs hp hk
theorem swpI_pos (hs : SymG G) (hp : PosU G n) (h : p + 1 < n) : PosU (swpI G p) n := posU_of (swpI_sym hs) n (swp_piv hs hp h)
theorem gsD_swp_lo : ∀ k, k ≤ p → gsD (qG (swpI G p)) k = gsD (qG G) k
  | 0, _ => rfl
  | k + 1, hk => by
    show gsD (qG (swpI G p)) k * gsE (qG (swpI G p)) k k k = gsD (qG G) k * gsE (qG G) k k k
    rw [gsD_swp_lo k (by omega), qG_swp, gsE_swp_lo k (by omega), sg_ne (by omega) (by omega)]
theorem gsD_swp_1 : gsD (qG (swpI G p)) (p + 1) = gsD (qG G) p * gsE (qG G) p (p + 1) (p + 1) := by
  show gsD (qG (swpI G p)) p * gsE (qG (swpI G p)) p p p = _
  rw [gsD_swp_lo p (Nat.le_refl _), qG_swp, gsE_swp_lo p (Nat.le_refl _), sg_p]
theorem gsD_swp_2 (hs : SymG G) (hp : PosU G n) (h : p + 1 < n) : gsD (qG (swpI G p)) (p + 2) = gsD (qG G) (p + 2) := by
  have hq : ∀ i j, qG G i j = qG G j i := fun i j => by unfold qG; rw [hs i j]
  obtain ⟨c1, c2⟩ := swp_c hs hp h
  have cn : gsE (qG G) p (p + 1) (p + 1) ≠ 0 := fun e => by rw [e] at c1; exact absurd c1 (by decide)
  show gsD (qG (swpI G p)) (p + 1) * gsE (qG (swpI G p)) (p + 1) (p + 1) (p + 1) = gsD (qG G) p * gsE (qG G) p p p * gsE (qG G) (p + 1) (p + 1) (p + 1)
  rw [gsD_swp_1, qG_swp, gsE_swp_1, sg_q, gsE_sym hq p p (p + 1)]
  have e : gsE (qG G) p (p + 1) (p + 1) * (gsE (qG G) p p p - gsE (qG G) p (p + 1) p * gsE (qG G) p (p + 1) p / gsE (qG G) p (p + 1) (p + 1)) = gsE (qG G) p p p * gsE (qG G) (p + 1) (p + 1) (p + 1) := by
    rw [c2]; grind
  rw [Rat.mul_assoc, e, Rat.mul_assoc]
theorem gsD_swp_hi (hs : SymG G) (hp : PosU G n) (h : p + 1 < n) : ∀ k, p + 2 ≤ k → k ≤ n → gsD (qG (swpI G p)) k = gsD (qG G) k
  | 0, hk, _ => absurd hk (by omega)
  | k + 1, hk, hkn => by
    by_cases e : k = p + 1
    · subst e; exact gsD_swp_2 hs hp h
    · have hq : ∀ i j, qG G i j = qG G j i := fun i j => by unfold qG; rw [hs i j]
      obtain ⟨c1, c2⟩ := swp_c hs hp h
      have cn : gsE (qG G) p (p + 1) (p + 1) ≠ 0 := fun e => by rw [e] at c1; exact absurd c1 (by decide)
      show gsD (qG (swpI G p)) k * gsE (qG (swpI G p)) k k k = gsD (qG G) k * gsE (qG G) k k k
      rw [gsD_swp_hi hs hp h k (by omega) (by omega), qG_swp, gsE_swp_hi hq (piv_ne hs hp (by omega)) cn (piv_ne hs hp h) k (by omega) k k (Nat.le_refl _) (Nat.le_refl _)]
theorem swpI_uD (hs : SymG G) (hp : PosU G n) (h : p + 1 < n) {k : Nat} (hk : k ≤ n) (hne : k ≠ p + 1) : uD (swpI G p) k = uD G k := by
  have h1 := uD_q (swpI_sym (p := p) hs) ((swpI_pos hs hp h).le hk)
  have e : gsD (qG (swpI G p)) k = gsD (qG G) k := by
    by_cases h2 : k ≤ p
    · exact gsD_swp_lo k h2
    · exact gsD_swp_hi hs hp h k (by omega) hk
  rw [e, ← uD_q hs (hp.le hk)] at h1
  exact_mod_cast h1
/-- d f + l l = e D' -/
theorem swpI_D (hs : SymG G) (hp : PosU G n) (h : p + 1 < n) : uD (swpI G p) (p + 1) * uD G (p + 1) = uD G p * uD G (p + 2) + uE G p (p + 1) p * uE G p (p + 1) p := by
  have h1 := uD_q (swpI_sym (p := p) hs) ((swpI_pos hs hp h).le (show p + 1 ≤ n by omega))
  rw [gsD_swp_1] at h1
  obtain ⟨c1, c2⟩ := swp_c hs hp h
  have d0 := uD_q hs (hp.le (show p ≤ n by omega))
  have d1 := uD_q hs (hp.le (show p + 1 ≤ n by omega))
  have d2 := uD_q hs (hp.le (show p + 2 ≤ n by omega))
  have l0 := uE_q hs (hp.le (show p ≤ n by omega)) (show p ≤ p + 1 by omega) (Nat.le_refl p)
  have g1 : gsD (qG G) (p + 1) = gsD (qG G) p * gsE (qG G) p p p := rfl
  have g2 : gsD (qG G) (p + 2) = gsD (qG G) p * gsE (qG G) p p p * gsE (qG G) (p + 1) (p + 1) (p + 1) := rfl
  have h4 : ((uD (swpI G p) (p + 1) * uD G (p + 1) : Int) : Rat) = ((uD G p * uD G (p + 2) + uE G p (p + 1) p * uE G p (p + 1) p : Int) : Rat) := by
    rw [Rat.intCast_add, Rat.intCast_mul, Rat.intCast_mul, Rat.intCast_mul, h1, d0, d1, d2, l0, g1, g2]
    grind
  exact_mod_cast h4
theorem swpI_lo (hs : SymG G) (hp : PosU G n) (h : p + 1 < n) {k x : Nat} (hk : k < p) (hkx : k ≤ x) : uE (swpI G p) k x k = uE G k (sg p x) k := by
  have h1 := uE_q (swpI_sym (p := p) hs) ((swpI_pos hs hp h).le (show k ≤ n by omega)) hkx (Nat.le_refl k)
  have hsg : k ≤ sg p x := by unfold sg; split; omega; split <;> omega
  rw [gsD_swp_lo k (by omega), qG_swp, gsE_swp_lo k (by omega), sg_ne (show k ≠ p by omega) (by omega), ← uE_q hs (hp.le (show k ≤ n by omega)) hsg (Nat.le_refl k)] at h1
  exact_mod_cast h1
theorem swpI_mid (hs : SymG G) (hp : PosU G n) (h : p + 1 < n) : uE (swpI G p) p (p + 1) p = uE G p (p + 1) p := by
  have hq : ∀ i j, qG G i j = qG G j i := fun i j => by unfold qG; rw [hs i j]
  have h1 := uE_q (swpI_sym (p := p) hs) ((swpI_pos hs hp h).le (show p ≤ n by omega)) (show p ≤ p + 1 by omega) (Nat.le_refl p)
  rw [gsD_swp_lo p (Nat.le_refl _), qG_swp, gsE_swp_lo p (Nat.le_refl _), sg_q, sg_p, gsE_sym hq p p (p + 1), ← uE_q hs (hp.le (show p ≤ n by omega)) (show p ≤ p + 1 by omega) (Nat.le_refl p)] at h1
  exact_mod_cast h1
/-- d q + l p = e L' -/
theorem swpI_1 (hs : SymG G) (hp : PosU G n) (h : p + 1 < n) {x : Nat} (hx : p + 1 < x) : uE (swpI G p) p x p * uD G (p + 1) = uD G p * uE G (p + 1) x (p + 1) + uE G p (p + 1) p * uE G p x p := by
  have hq : ∀ i j, qG G i j = qG G j i := fun i j => by unfold qG; rw [hs i j]
  have h1 := uE_q (swpI_sym (p := p) hs) ((swpI_pos hs hp h).le (show p ≤ n by omega)) (show p ≤ x by omega) (Nat.le_refl p)
  rw [gsD_swp_lo p (Nat.le_refl _), qG_swp, gsE_swp_lo p (Nat.le_refl _), sg_p, sg_ne (show x ≠ p by omega) (by omega)] at h1
  have an := piv_ne hs hp (show p < n by omega)
  have d0 := uD_q hs (hp.le (show p ≤ n by omega))
  have d1 := uD_q hs (hp.le (show p + 1 ≤ n by omega))
  have l0 := uE_q hs (hp.le (show p ≤ n by omega)) (show p ≤ p + 1 by omega) (Nat.le_refl p)
  have l1 := uE_q hs (hp.le (show p ≤ n by omega)) (show p ≤ x by omega) (Nat.le_refl p)
  have l2 := uE_q hs (hp.le (show p + 1 ≤ n by omega)) (show p + 1 ≤ x by omega) (Nat.le_refl (p + 1))
  have g1 : gsD (qG G) (p + 1) = gsD (qG G) p * gsE (qG G) p p p := rfl
  rw [gsE_succ, gsE_sym hq p p (p + 1)] at l2
  have h4 : ((uE (swpI G p) p x p * uD G (p + 1) : Int) : Rat) = ((uD G p * uE G (p + 1) x (p + 1) + uE G p (p + 1) p * uE G p x p : Int) : Rat) := by
    rw [Rat.intCast_add, Rat.intCast_mul, Rat.intCast_mul, Rat.intCast_mul, h1, d0, d1, l0, l1, l2, g1]
    grind
  exact_mod_cast h4
/-- f p - l q = e L' -/
theorem swpI_2 (hs : SymG G) (hp : PosU G n) (h : p + 1 < n) {x : Nat} (hx : p + 1 < x) : uE (swpI G p) (p + 1) x (p + 1) * uD G (p + 1) = uD G (p + 2) * uE G p x p - uE G p (p + 1) p * uE G (p + 1) x (p + 1) := by
  have hq : ∀ i j, qG G i j = qG G j i := fun i j => by unfold qG; rw [hs i j]
  have h1 := uE_q (swpI_sym (p := p) hs) ((swpI_pos hs hp h).le (show p + 1 ≤ n by omega)) (show p + 1 ≤ x by omega) (Nat.le_refl (p + 1))
  rw [gsD_swp_1, qG_swp, gsE_swp_1, sg_q, sg_ne (show x ≠ p by omega) (by omega)] at h1
  obtain ⟨c1, c2⟩ := swp_c hs hp h
  have cn : gsE (qG G) p (p + 1) (p + 1) ≠ 0 := fun e => by rw [e] at c1; exact absurd c1 (by decide)
  have an := piv_ne hs hp (show p < n by omega)
  have d0 := uD_q hs (hp.le (show p ≤ n by omega))
  have d1 := uD_q hs (hp.le (show p + 1 ≤ n by omega))
  have d2 := uD_q hs (hp.le (show p + 2 ≤ n by omega))
  have l0 := uE_q hs (hp.le (show p ≤ n by omega)) (show p ≤ p + 1 by omega) (Nat.le_refl p)
  have l1 := uE_q hs (hp.le (show p ≤ n by omega)) (show p ≤ x by omega) (Nat.le_refl p)
  have l2 := uE_q hs (hp.le (show p + 1 ≤ n by omega)) (show p + 1 ≤ x by omega) (Nat.le_refl (p + 1))
  have g1 : gsD (qG G) (p + 1) = gsD (qG G) p * gsE (qG G) p p p := rfl
  have g2 : gsD (qG G) (p + 2) = gsD (qG G) p * gsE (qG G) p p p * gsE (qG G) (p + 1) (p + 1) (p + 1) := rfl
  rw [gsE_succ, gsE_sym hq p p (p + 1)] at l2
  have h4 : ((uE (swpI G p) (p + 1) x (p + 1) * uD G (p + 1) : Int) : Rat) = ((uD G (p + 2) * uE G p x p - uE G p (p + 1) p * uE G (p + 1) x (p + 1) : Int) : Rat) := by
    rw [Rat.intCast_sub, Rat.intCast_mul, Rat.intCast_mul, Rat.intCast_mul, h1, d1, d2, l0, l1, l2, g1, g2]
    grind
  exact_mod_cast h4
theorem swpI_hi (hs : SymG G) (hp : PosU G n) (h : p + 1 < n) {k x : Nat} (hk : p + 2 ≤ k) (hkx : k ≤ x) (hx : x < n) : uE (swpI G p) k x k = uE G k x k := by
  have hq : ∀ i j, qG G i j = qG G j i := fun i j => by unfold qG; rw [hs i j]
  obtain ⟨c1, c2⟩ := swp_c hs hp h
  have cn : gsE (qG G) p (p + 1) (p + 1) ≠ 0 := fun e => by rw [e] at c1; exact absurd c1 (by decide)
  have h1 := uE_q (swpI_sym (p := p) hs) ((swpI_pos hs hp h).le (show k ≤ n by omega)) hkx (Nat.le_refl k)
  rw [gsD_swp_hi hs hp h k hk (by omega), qG_swp, gsE_swp_hi hq (piv_ne hs hp (by omega)) cn (piv_ne hs hp h) k hk x k hkx (Nat.le_refl _), ← uE_q hs (hp.le (show k ≤ n by omega)) hkx (Nat.le_refl k)] at h1
  exact_mod_cast h1
/-- rows below the exchanged ones -/
theorem swpI_low (hs : SymG G) (hp : PosU G n) (h : p + 1 < n) {k x : Nat} (hkx : k ≤ x) (hx : x < p) : uE (swpI G p) k x k = uE G k x k := by
  rw [swpI_lo hs hp h (by omega) hkx, sg_ne (by omega) (by omega)]
end

end Fw


/- Plain facts: the document's elimination by fractions. -/
set_option linter.unusedVariables false
set_option linter.unusedSimpArgs false
set_option exponentiation.threshold 400
namespace Fw
open Go

/-! sizes -/
theorem RZ.add {n p q} (h : RZ n p) (k : RZ n q) : RZ (n + n + 1) (p + q) :=
  RZ.of (Int.mul_ne_zero (rq_den_ne p) (rq_den_ne q)) (rq_add p q) (Sz.add1 (h.a.mul k.b) (k.a.mul h.b)) ((h.b.mul k.b).up (by omega))
end Fw


/- Plain facts: nearest whole numbers, comparisons of fractions. -/
set_option linter.unusedVariables false
set_option linter.unusedSimpArgs false
set_option exponentiation.threshold 400
namespace Fw
open Go

def nearI (a b : Int) : Int := (a + a + b).fdiv (b + b)
def nearQ (q : Rat) : Int := nearI (rq q).1 (rq q).2
theorem rq_cmp (p q : Rat) : ((rq p).1 * (rq q).2 - (rq q).1 * (rq p).2).sign ≤ 0 ↔ p ≤ q := by
  have hp : (0 : Rat) < ((rq p).2 : Rat) := by exact_mod_cast rq_den_pos p
  have hq : (0 : Rat) < ((rq q).2 : Rat) := by exact_mod_cast rq_den_pos q
  have ep := rq_val p
  have eq_ := rq_val q
  have np : ((rq p).2 : Rat) ≠ 0 := fun e => by rw [e] at hp; exact absurd hp (by decide)
  have nq : ((rq q).2 : Rat) ≠ 0 := fun e => by rw [e] at hq; exact absurd hq (by decide)
  have e1 : (((rq p).1 * (rq q).2 - (rq q).1 * (rq p).2 : Int) : Rat) = (p - q) * (((rq p).2 : Rat) * ((rq q).2 : Rat)) := by
    rw [Rat.intCast_sub, Rat.intCast_mul, Rat.intCast_mul]
    have a1 : ((rq p).1 : Rat) = p * ((rq p).2 : Rat) := by rw [← ep]; grind
    have a2 : ((rq q).1 : Rat) = q * ((rq q).2 : Rat) := by rw [← eq_]; grind
    rw [a1, a2]; grind
  have hd := Rat.mul_pos hp hq
  have key : ((rq p).1 * (rq q).2 - (rq q).1 * (rq p).2) ≤ 0 ↔ p ≤ q := by
    constructor
    · intro h
      have h2 : (((rq p).1 * (rq q).2 - (rq q).1 * (rq p).2 : Int) : Rat) ≤ 0 := by exact_mod_cast h
      rw [e1] at h2
      rcases Rat.le_total (a := p) (b := q) with h3 | h3
      · exact h3
      · by_cases e : p = q
        · rw [e]; exact Rat.le_refl
        · have h4 : 0 < p - q := by grind
          have := Rat.mul_pos h4 hd
          grind
    · intro h
      have h2 : (((rq p).1 * (rq q).2 - (rq q).1 * (rq p).2 : Int) : Rat) ≤ 0 := by
        rw [e1]
        have h3 : 0 ≤ q - p := by grind
        have := Rat.mul_nonneg h3 (Rat.le_of_lt hd)
        grind
      exact_mod_cast h2
  rw [← key]
  generalize (rq p).1 * (rq q).2 - (rq q).1 * (rq p).2 = z
  rcases Int.lt_trichotomy z 0 with h | h | h
  · rw [Int.sign_eq_neg_one_of_neg h]; omega
  · subst h; simp
  · rw [Int.sign_eq_one_of_pos h]; omega

end Fw


/- Fractions: what the program answers. -/
set_option linter.unusedVariables false
set_option linter.unusedSimpArgs false
set_option exponentiation.threshold 400
namespace Fw
open Go Go.Proofs

set_option maxRecDepth 20000 in
set_option maxHeartbeats 1000000 in
theorem c_zint_Near (n : Nat) (a b : Int) (ha : Sz n a) (hb : Sz n b) (h0 : 0 < b) (hn : n ≤ 274877906944) : Fn Try.prog 232 [kZ.is a, kZ.is b] (VP.tup [kC.is (nearI a b), (kInt .i64).is 0]) := by
  refine Con.enter Try.func232 rfl rfl fun m w => ?_
  refine CW.seq ?_
  refine CW.region ?_
  refine WP.bx .n rfl fun b1 => ?_
  refine WP.bx .n rfl fun b2 => ?_
  refine WP.al .n z31_C fun b3 => ?_
  refine WP.s .n (O.asg rfl) ?_
  refine WP.nil ?_
  refine QE.next ?_
  refine CW.seq ?_
  refine CW.draw (Γ := [.fr (kZ.is a), .fr (kZ.is a), .fr (kC.is (a + a)), .fr (kZ.is b), .fr (kC.is ((a + a) + b)), .fr (kZ.is b), .fr (kZ.is b), .fr (kC.is (b + b)), .fr (VP.tup [kC.is (((a + a) + b).fdiv (b + b)), kC.is (if (b + b) = 0 then 0 else ((a + a) + b).fmod (b + b)), (kInt .i64).is (if (b + b) = 0 then 11 else 0)]), .fr (VP.tup [kC.is (((a + a) + b).fdiv (b + b)), kC.is (if (b + b) = 0 then 0 else ((a + a) + b).fmod (b + b)), (kInt .i64).is (if (b + b) = 0 then 11 else 0)]), .fr (kC.is (((a + a) + b).fdiv (b + b))), .lt (kC.is (if (b + b) = 0 then 0 else ((a + a) + b).fmod (b + b))), .lt ((kInt .i64).is (if (b + b) = 0 then 11 else 0)), .al (fun b => OB.box b 31 kC 0), .al (fun b => OB.box b 31 kC 0)]) (lates := [false, false, false, false, false, false, false, false, false, false, false, true, true, false, false]) (by kernel_rfl) (Chk.of rfl (by kernel_rfl) rfl) (fun _ _ _ _ _ h => h) (fun q_ x_ h_ => ?_) (fun σ1 => ?_)
  · match q_, h_ with
    | 0, h_ => cases h_; exact Ob.f rfl .n fun N => (O.ld rfl (mem_app N (mem_at 2 rfl)) (Lens.id _) ty31 rfl)
    | 1, h_ => cases h_; exact Ob.f rfl .n fun N => (O.ld rfl (mem_app N (mem_at 2 rfl)) (Lens.id _) ty31 rfl)
    | 2, h_ => cases h_; exact Ob.f rfl .n fun N => (O.fn fn77 (evs.c rfl (evs.c rfl evs.nil)) (c_zint_Add a a))
    | 3, h_ => cases h_; exact Ob.f rfl .n fun N => (O.ld rfl (mem_app N (mem_at 1 rfl)) (Lens.id _) ty31 rfl)
    | 4, h_ => cases h_; exact Ob.f rfl .n fun N => (O.fn fn77 (evs.l rfl (kC_Z (by first | exact (Sz.add1 ha ha).sm (by omega) | exact (Sz.add1 hb hb).sm (by omega) | exact (Sz.add1 (Sz.add1 ha ha) (hb.up (by omega))).sm (by omega))) (evs.c rfl evs.nil)) (c_zint_Add (a + a) b))
    | 5, h_ => cases h_; exact Ob.f rfl .n fun N => (O.ld rfl (mem_app N (mem_at 1 rfl)) (Lens.id _) ty31 rfl)
    | 6, h_ => cases h_; exact Ob.f rfl .n fun N => (O.ld rfl (mem_app N (mem_at 1 rfl)) (Lens.id _) ty31 rfl)
    | 7, h_ => cases h_; exact Ob.f rfl .n fun N => (O.fn fn77 (evs.c rfl (evs.c rfl evs.nil)) (c_zint_Add b b))
    | 8, h_ => cases h_; exact Ob.f rfl .n fun N => (O.fn fn105 (evs.l rfl (kC_Z (by first | exact (Sz.add1 ha ha).sm (by omega) | exact (Sz.add1 hb hb).sm (by omega) | exact (Sz.add1 (Sz.add1 ha ha) (hb.up (by omega))).sm (by omega))) (evs.l rfl (kC_Z (by first | exact (Sz.add1 ha ha).sm (by omega) | exact (Sz.add1 hb hb).sm (by omega) | exact (Sz.add1 (Sz.add1 ha ha) (hb.up (by omega))).sm (by omega))) evs.nil)) (c_zint_Floor ((a + a) + b) (b + b)))
    | 9, h_ => cases h_; exact Ob.f rfl .n fun N => (O.mv rfl)
    | 10, h_ => cases h_; exact Ob.f rfl .n fun N => (O.ext rfl rfl)
    | 11, h_ => cases h_; exact Ob.l rfl .n (OV.ext rfl rfl)
    | 12, h_ => cases h_; exact Ob.l rfl .n (OV.ext rfl rfl)
    | 13, h_ => cases h_; exact Ob.a rfl z31_C
    | 14, h_ => cases h_; exact Ob.a rfl z31_C
    | n_ + 15, h_ => simp at h_
  refine WP.t .n (O.stW (l := kC) (u := ((a + a) + b).fdiv (b + b)) 0 rfl rfl rfl ty31 rfl (VP.le_refl _)) ?_
  refine WP.t .n (O.stW (l := kC) (u := if (b + b) = 0 then 0 else ((a + a) + b).fmod (b + b)) 1 rfl rfl rfl ty31 rfl (VP.le_refl _)) ?_
  refine WP.s .n (O.asg rfl) ?_
  refine WP.nil ?_
  refine QE.next ?_
  refine CW.seq ?_
  refine CW.region ?_
  refine WP.s .n (O.ld rfl (mem_at 0 rfl) (Lens.id _) ty31 rfl) ?_
  refine WP.s .n (O.mv rfl) ?_
  refine WP.t .n (O.stW (l := kC) (u := ((a + a) + b).fdiv (b + b)) 2 rfl rfl rfl ty31 rfl (VP.le_refl _)) ?_
  refine WP.s .n (O.asg rfl) ?_
  refine WP.nil ?_
  refine QE.next ?_
  refine CW.ret ?_
  refine ST.obtold 2 rfl (OB.box_eq (y := (nearI a b)) rfl) ?_
  exact QE.done (.inl rfl) rfl (ResOk.c rfl (mem_at 2 rfl) ty31 (ResOk.tl rfl (is_eq (y := 0) (by first | rfl | omega | assumption | exact if_neg (by omega))) ResOk.nil)) (OImp.sub (List.nil_sublist _)) ⟨rfl, rfl⟩

set_option maxRecDepth 20000 in
set_option maxHeartbeats 1000000 in
theorem c_rat_valid (l : List (Int × Int)) (hv : ∀ x, x ∈ l → 0 < x.2 ∧ Sm x.2) : Fn Try.prog 231 [(kSl (kPair kC kC)).is l] ((kInt .i64).is 0) := by
  refine Con.enter Try.func231 rfl rfl fun m w => ?_
  refine ST.fact (i := 0) rfl sl_len fun hB => ?_
  refine CW.seq ?_
  refine CW.region ?_
  refine WP.s .n (O.asg rfl) ?_
  refine WP.nil ?_
  refine QE.next ?_
  refine CW.seq ?_
  refine CW.seq ?_
  refine CW.region ?_
  refine WP.s .n (O.mv rfl) ?_
  refine WP.s .n (O.lenS rfl Try.underlying195) ?_
  refine WP.s .n (O.mv rfl) ?_
  refine WP.nil ?_
  refine QE.next ?_
  refine CW.block ?_
  refine CW.loop (fun (i : Nat) => i ≤ l.length) (fun (i : Nat) => [(0, (kSl (kPair kC kC)).is l), (5, (kSl (kPair kC kC)).is l), (6, (kInt .i64).is (l.length : Int)), (7, (kInt .i64).is (i : Int))]) (fun (i : Nat) => []) (fun (i : Nat) => l.length - i) 0 (by omega) (Imp.cons rfl (Imp.cons rfl (Imp.cons rfl (Imp.consLe rfl (is_eq (y := (0 : Int)) (by first | rfl | omega | assumption)) Imp.nil)))) (OImp.refl _) ?_
  intro i hi
  refine CW.seq ?_
  refine CW.region ?_
  refine WP.s .n (O.lt rfl rfl) ?_
  refine WP.nil ?_
  refine QE.next ?_
  refine CW.seq ?_
  refine CW.condD rfl (fun h_t8 => ?_) (fun h_t8 => ?_)
  · refine CW.skip ?_
    refine QE.next ?_
    refine CW.seq ?_
    refine CW.block ?_
    refine CW.seq ?_
    refine CW.region ?_
    refine WP.s .n (O.ix i rfl rfl Try.underlying195 ty60 rfl (v := (l.getD i (0, 0))) (gd (0, 0) (by omega))) ?_
    refine WP.s .n (O.ldP rfl ty60) ?_
    refine WP.al .n z60_pr_C_C_ fun b1 => ?_
    refine WP.t .n (O.stW (l := (kPair kC kC)) (u := (l.getD i (0, 0))) 0 rfl rfl rfl ty60 rfl (VP.le_refl _)) ?_
    refine WP.nil ?_
    refine QE.next ?_
    refine CW.seq ?_
    refine CW.region ?_
    refine WP.s .n (O.fa rfl fld60_1 rfl) ?_
    refine WP.s .n (O.ld rfl (mem_at 0 rfl) (Lens.snd (Lens.id _)) ty31 rfl) ?_
    refine WP.s .n (O.fn fn80 (evs.l rfl (kC_Z (by exact (hv _ (getD_mem (0, 0) (by omega))).2)) evs.nil) (c_zint_Sign ((l.getD i (0, 0)).2))) ?_
    refine WP.s .n (O.le rfl rfl) ?_
    refine WP.nil ?_
    refine QE.next ?_
    refine CW.condD rfl (fun h => absurd h (by have h1 := (hv _ (getD_mem (0, 0) (show i < l.length by omega))).1; have := Int.sign_eq_one_of_pos h1; omega)) (fun h_t14 => ?_)
    refine CW.skip ?_
    refine QE.blkN ?_
    refine QE.next ?_
    refine CW.region ?_
    refine WP.s .n (O.add rfl rfl (c := ((i : Int) + 1)) (w64 (by omega))) ?_
    refine WP.s .n (O.mv rfl) ?_
    refine WP.nil ?_
    exact QE.round (i + 1) (by omega) (by omega) (Imp.cons rfl (Imp.cons rfl (Imp.cons rfl (Imp.consLe rfl (is_eq (y := (((i + 1) : Nat) : Int)) (by first | rfl | omega | assumption)) Imp.nil)))) (OImp.sub (List.nil_sublist _))
  · refine CW.exit ?_
    refine QE.thenE ?_
    refine QE.thenE ?_
    refine QE.blkH ?_
    refine QE.next ?_
    refine CW.seq ?_
    refine CW.region ?_
    refine WP.s .n (O.asg rfl) ?_
    refine WP.nil ?_
    refine QE.next ?_
    refine CW.ret ?_
    exact QE.done (.inl rfl) rfl (ResOk.t rfl ResOk.nil) (OImp.sub (List.nil_sublist _)) ⟨rfl, rfl⟩

set_option maxRecDepth 20000 in
set_option maxHeartbeats 1000000 in
theorem c_rat_two (n : Nat) (p q r : Rat) (fid : FuncId) (caps : List VP) (hok : FnOk Try.prog fid) (hF : Fn Try.prog fid caps ((kPair kC kC).is (rq r))) (hp : RZ n p) (hq : RZ n q) (hn : n ≤ 68719476736) : Fn Try.prog 260 [(kPair kC kC).is (rq p), (kPair kC kC).is (rq q), VP.clo fid caps] (VP.tup [(kPair kC kC).is (rq r), (kInt .i64).is 0]) := by
  refine Con.enter Try.func260 rfl rfl fun m w => ?_
  have hv2 : ∀ x, x ∈ [rq p, rq q] → 0 < x.2 ∧ Sm x.2 := by intro x hx; rcases List.mem_cons.1 hx with rfl | hx; exact ⟨rq_den_pos p, hp.b.sm (by omega)⟩; rcases List.mem_cons.1 hx with rfl | hx; exact ⟨rq_den_pos q, hq.b.sm (by omega)⟩; cases hx
  refine CW.seq ?_
  refine CW.region ?_
  refine WP.bx .n rfl fun b1 => ?_
  refine WP.bx .n rfl fun b2 => ?_
  refine WP.al .n z60_pr_C_C_ fun b3 => ?_
  refine WP.s .n (O.asg rfl) ?_
  refine WP.nil ?_
  refine QE.next ?_
  refine CW.seq ?_
  refine CW.seq ?_
  refine CW.region ?_
  refine WP.s .n (O.ld rfl (mem_at 2 rfl) (Lens.id _) ty60 rfl) ?_
  refine WP.s .n (O.ld rfl (mem_at 1 rfl) (Lens.id _) ty60 rfl) ?_
  refine WP.s .n (O.bs Try.underlying195 el60_pr_C_C_ (evl.c rfl (evl.c rfl evl.n)) rfl (by decide)) ?_
  refine WP.s .n (O.fn fn231 (evs.c rfl evs.nil) (c_rat_valid [rq p, rq q] hv2)) ?_
  refine WP.s .n (O.asg rfl) ?_
  refine WP.nil ?_
  refine QE.next ?_
  refine CW.seq ?_
  refine CW.region ?_
  refine WP.s .n (O.mv rfl) ?_
  refine WP.s .n (O.ne rfl rfl) ?_
  refine WP.nil ?_
  refine QE.next ?_
  refine CW.condD rfl (fun h => absurd h (fun h => h rfl)) (fun h_t14 => ?_)
  refine CW.skip ?_
  refine QE.next ?_
  refine CW.seq ?_
  refine CW.region ?_
  refine WP.s .n (O.mv rfl) ?_
  refine WP.s .n (O.clo rfl hok evs.nil hF) ?_
  refine WP.t .n (O.stW (l := (kPair kC kC)) (u := rq r) 0 rfl rfl rfl ty60 rfl (VP.le_refl _)) ?_
  refine WP.s .n (O.asg rfl) ?_
  refine WP.nil ?_
  refine QE.next ?_
  refine CW.ret ?_
  exact QE.done (.inl rfl) rfl (ResOk.c rfl (mem_at 0 rfl) ty60 (ResOk.t rfl ResOk.nil)) (OImp.sub (List.nil_sublist _)) ⟨rfl, rfl⟩

set_option maxRecDepth 20000 in
set_option maxHeartbeats 1000000 in
theorem c_rat_Mul1 (n : Nat) (p q : Rat) (hp : RZ n p) (hq : RZ n q) (hn : n ≤ 68719476736) : Fn Try.prog 261 [VP.pim (kPair kC kC) (rq p), VP.pim (kPair kC kC) (rq q)] ((kPair kC kC).is (rq (p * q))) := by
  refine Con.enter Try.func261 rfl rfl fun m w => ?_
  refine CW.seq ?_
  refine CW.region ?_
  refine WP.al .n z60_pr_C_C_ fun b1 => ?_
  refine WP.nil ?_
  refine QE.next ?_
  refine CW.seq ?_
  refine CW.draw (Γ := [.fr (VP.pim kC ((rq p).1)), .fr (kC.is ((rq p).1)), .fr (VP.pim kC ((rq q).1)), .fr (kC.is ((rq q).1)), .fr (kC.is (((rq p).1) * ((rq q).1))), .fr (VP.pim kC ((rq p).2)), .fr (kC.is ((rq p).2)), .fr (VP.pim kC ((rq q).2)), .fr (kC.is ((rq q).2)), .fr (kC.is (((rq p).2) * ((rq q).2))), .fr ((kPair kC kC).is (rmk (((rq p).1) * ((rq q).1)) (((rq p).2) * ((rq q).2))))]) (lates := [false, false, false, false, false, false, false, false, false, false, false]) (by kernel_rfl) (Chk.of rfl (by kernel_rfl) rfl) (fun _ _ _ _ _ h => h) (fun q_ x_ h_ => ?_) (fun σ1 => ?_)
  · match q_, h_ with
    | 0, h_ => cases h_; exact Ob.f rfl .n fun N => (O.faP rfl fld60_0 (Lens.fst (Lens.id _)) rfl)
    | 1, h_ => cases h_; exact Ob.f rfl .n fun N => (O.ldP rfl ty31)
    | 2, h_ => cases h_; exact Ob.f rfl .n fun N => (O.faP rfl fld60_0 (Lens.fst (Lens.id _)) rfl)
    | 3, h_ => cases h_; exact Ob.f rfl .n fun N => (O.ldP rfl ty31)
    | 4, h_ => cases h_; exact Ob.f rfl .n fun N => (O.fn fn76 (evs.l rfl (kC_Z (by first | exact hp.a.sm (by omega) | exact hp.b.sm (by omega) | exact hq.a.sm (by omega) | exact hq.b.sm (by omega) | exact (hp.a.mul hq.a).sm (by omega) | exact (hp.b.mul hq.b).sm (by omega) | exact (hp.a.mul hq.b).sm (by omega) | exact (hq.a.mul hp.b).sm (by omega) | exact (hp.b.mul hq.a).sm (by omega) | exact ((hp.a.mul hq.b).add (hq.a.mul hp.b)).sm (by omega))) (evs.l rfl (kC_Z (by first | exact hp.a.sm (by omega) | exact hp.b.sm (by omega) | exact hq.a.sm (by omega) | exact hq.b.sm (by omega) | exact (hp.a.mul hq.a).sm (by omega) | exact (hp.b.mul hq.b).sm (by omega) | exact (hp.a.mul hq.b).sm (by omega) | exact (hq.a.mul hp.b).sm (by omega) | exact (hp.b.mul hq.a).sm (by omega) | exact ((hp.a.mul hq.b).add (hq.a.mul hp.b)).sm (by omega))) evs.nil)) (c_zint_Mul ((rq p).1) ((rq q).1)))
    | 5, h_ => cases h_; exact Ob.f rfl .n fun N => (O.faP rfl fld60_1 (Lens.snd (Lens.id _)) rfl)
    | 6, h_ => cases h_; exact Ob.f rfl .n fun N => (O.ldP rfl ty31)
    | 7, h_ => cases h_; exact Ob.f rfl .n fun N => (O.faP rfl fld60_1 (Lens.snd (Lens.id _)) rfl)
    | 8, h_ => cases h_; exact Ob.f rfl .n fun N => (O.ldP rfl ty31)
    | 9, h_ => cases h_; exact Ob.f rfl .n fun N => (O.fn fn76 (evs.l rfl (kC_Z (by first | exact hp.a.sm (by omega) | exact hp.b.sm (by omega) | exact hq.a.sm (by omega) | exact hq.b.sm (by omega) | exact (hp.a.mul hq.a).sm (by omega) | exact (hp.b.mul hq.b).sm (by omega) | exact (hp.a.mul hq.b).sm (by omega) | exact (hq.a.mul hp.b).sm (by omega) | exact (hp.b.mul hq.a).sm (by omega) | exact ((hp.a.mul hq.b).add (hq.a.mul hp.b)).sm (by omega))) (evs.l rfl (kC_Z (by first | exact hp.a.sm (by omega) | exact hp.b.sm (by omega) | exact hq.a.sm (by omega) | exact hq.b.sm (by omega) | exact (hp.a.mul hq.a).sm (by omega) | exact (hp.b.mul hq.b).sm (by omega) | exact (hp.a.mul hq.b).sm (by omega) | exact (hq.a.mul hp.b).sm (by omega) | exact (hp.b.mul hq.a).sm (by omega) | exact ((hp.a.mul hq.b).add (hq.a.mul hp.b)).sm (by omega))) evs.nil)) (c_zint_Mul ((rq p).2) ((rq q).2)))
    | 10, h_ => cases h_; exact Ob.f rfl .n fun N => (O.fn fn165 (evs.l rfl (kC_Z (by first | exact hp.a.sm (by omega) | exact hp.b.sm (by omega) | exact hq.a.sm (by omega) | exact hq.b.sm (by omega) | exact (hp.a.mul hq.a).sm (by omega) | exact (hp.b.mul hq.b).sm (by omega) | exact (hp.a.mul hq.b).sm (by omega) | exact (hq.a.mul hp.b).sm (by omega) | exact (hp.b.mul hq.a).sm (by omega) | exact ((hp.a.mul hq.b).add (hq.a.mul hp.b)).sm (by omega))) (evs.l rfl (kC_Z (by first | exact hp.a.sm (by omega) | exact hp.b.sm (by omega) | exact hq.a.sm (by omega) | exact hq.b.sm (by omega) | exact (hp.a.mul hq.a).sm (by omega) | exact (hp.b.mul hq.b).sm (by omega) | exact (hp.a.mul hq.b).sm (by omega) | exact (hq.a.mul hp.b).sm (by omega) | exact (hp.b.mul hq.a).sm (by omega) | exact ((hp.a.mul hq.b).add (hq.a.mul hp.b)).sm (by omega))) evs.nil)) (c_rat_made (((rq p).1) * ((rq q).1)) (((rq p).2) * ((rq q).2)) (by exact Int.mul_ne_zero (rq_den_ne p) (rq_den_ne q))))
    | n_ + 11, h_ => simp at h_
  refine WP.t .n (O.stW (l := (kPair kC kC)) (u := rmk (((rq p).1) * ((rq q).1)) (((rq p).2) * ((rq q).2))) 0 rfl rfl rfl ty60 rfl (VP.le_refl _)) ?_
  refine WP.nil ?_
  refine QE.next ?_
  refine CW.ret ?_
  refine ST.obtold 0 rfl (OB.box_eq (y := (rq (p * q))) (rq_mul p q)) ?_
  exact QE.done (.inl rfl) rfl (ResOk.c rfl (mem_at 0 rfl) ty60 ResOk.nil) (OImp.sub (List.nil_sublist _)) ⟨rfl, rfl⟩

set_option maxRecDepth 20000 in
set_option maxHeartbeats 1000000 in
theorem c_rat_Mul (n : Nat) (p q : Rat) (hp : RZ n p) (hq : RZ n q) (hn : n ≤ 68719476736) : Fn Try.prog 239 [(kPair kC kC).is (rq p), (kPair kC kC).is (rq q)] (VP.tup [(kPair kC kC).is (rq (p * q)), (kInt .i64).is 0]) := by
  refine Con.enter Try.func239 rfl rfl fun m w => ?_
  refine CW.seq ?_
  refine CW.region ?_
  refine WP.bx .n rfl fun b1 => ?_
  refine WP.bx .n rfl fun b2 => ?_
  refine WP.al .n z60_pr_C_C_ fun b3 => ?_
  refine WP.s .n (O.asg rfl) ?_
  refine WP.nil ?_
  refine QE.next ?_
  refine CW.seq ?_
  refine CW.region ?_
  refine WP.s .n (O.ld rfl (mem_at 2 rfl) (Lens.id _) ty60 rfl) ?_
  refine WP.s .n (O.ld rfl (mem_at 1 rfl) (Lens.id _) ty60 rfl) ?_
  refine ST.freezeb 2 rfl (.keep (i := 0) rfl (.keep (i := 1) rfl (.hit (i := 2) rfl (.keep (i := 3) rfl (.keep (i := 4) rfl (.keep (i := 5) rfl (.keep (i := 6) rfl (.keep (i := 7) rfl .nil)))))))) ?_
  refine ST.freezeb 1 rfl (.keep (i := 0) rfl (.keep (i := 1) rfl (.keep (i := 2) rfl (.hit (i := 3) rfl (.keep (i := 4) rfl (.keep (i := 5) rfl (.keep (i := 6) rfl (.keep (i := 7) rfl .nil)))))))) ?_
  refine WP.s .n (O.mkf (evs.c rfl (evs.c rfl evs.nil))) ?_
  refine WP.s .n (O.fn fn260 (evs.c rfl (evs.c rfl (evs.c rfl evs.nil))) (c_rat_two n p q (p * q) 261 [VP.pim (kPair kC kC) (rq p), VP.pim (kPair kC kC) (rq q)] fn261 (c_rat_Mul1 n p q hp hq hn) hp hq hn)) ?_
  refine WP.s .n (O.ext rfl rfl) ?_
  refine WP.s .n (O.ext rfl rfl) ?_
  refine WP.t .n (O.stW (l := (kPair kC kC)) (u := rq (p * q)) 0 rfl rfl rfl ty60 rfl (VP.le_refl _)) ?_
  refine WP.s .n (O.asg rfl) ?_
  refine WP.nil ?_
  refine QE.next ?_
  refine CW.ret ?_
  exact QE.done (.inl rfl) rfl (ResOk.c rfl (mem_at 0 rfl) ty60 (ResOk.t rfl ResOk.nil)) (OImp.sub (List.nil_sublist _)) ⟨rfl, rfl⟩

set_option maxRecDepth 20000 in
set_option maxHeartbeats 1000000 in
theorem c_rat_Add1 (n : Nat) (p q : Rat) (hp : RZ n p) (hq : RZ n q) (hn : n ≤ 68719476736) : Fn Try.prog 262 [VP.pim (kPair kC kC) (rq p), VP.pim (kPair kC kC) (rq q)] ((kPair kC kC).is (rq (p + q))) := by
  refine Con.enter Try.func262 rfl rfl fun m w => ?_
  refine CW.seq ?_
  refine CW.region ?_
  refine WP.al .n z60_pr_C_C_ fun b1 => ?_
  refine WP.nil ?_
  refine QE.next ?_
  refine CW.seq ?_
  refine CW.draw (Γ := [.fr (VP.pim kC ((rq p).1)), .fr (kC.is ((rq p).1)), .fr (VP.pim kC ((rq q).2)), .fr (kC.is ((rq q).2)), .fr (kC.is (((rq p).1) * ((rq q).2))), .fr (VP.pim kC ((rq q).1)), .fr (kC.is ((rq q).1)), .fr (VP.pim kC ((rq p).2)), .fr (kC.is ((rq p).2)), .fr (kC.is (((rq q).1) * ((rq p).2))), .fr (kC.is ((((rq p).1) * ((rq q).2)) + (((rq q).1) * ((rq p).2)))), .fr (VP.pim kC ((rq p).2)), .fr (kC.is ((rq p).2)), .fr (VP.pim kC ((rq q).2)), .fr (kC.is ((rq q).2)), .fr (kC.is (((rq p).2) * ((rq q).2))), .fr ((kPair kC kC).is (rmk ((((rq p).1) * ((rq q).2)) + (((rq q).1) * ((rq p).2))) (((rq p).2) * ((rq q).2))))]) (lates := [false, false, false, false, false, false, false, false, false, false, false, false, false, false, false, false, false]) (by kernel_rfl) (Chk.of rfl (by kernel_rfl) rfl) (fun _ _ _ _ _ h => h) (fun q_ x_ h_ => ?_) (fun σ1 => ?_)
  · match q_, h_ with
    | 0, h_ => cases h_; exact Ob.f rfl .n fun N => (O.faP rfl fld60_0 (Lens.fst (Lens.id _)) rfl)
    | 1, h_ => cases h_; exact Ob.f rfl .n fun N => (O.ldP rfl ty31)
    | 2, h_ => cases h_; exact Ob.f rfl .n fun N => (O.faP rfl fld60_1 (Lens.snd (Lens.id _)) rfl)
    | 3, h_ => cases h_; exact Ob.f rfl .n fun N => (O.ldP rfl ty31)
    | 4, h_ => cases h_; exact Ob.f rfl .n fun N => (O.fn fn76 (evs.l rfl (kC_Z (by first | exact hp.a.sm (by omega) | exact hp.b.sm (by omega) | exact hq.a.sm (by omega) | exact hq.b.sm (by omega) | exact (hp.a.mul hq.a).sm (by omega) | exact (hp.b.mul hq.b).sm (by omega) | exact (hp.a.mul hq.b).sm (by omega) | exact (hq.a.mul hp.b).sm (by omega) | exact (hp.b.mul hq.a).sm (by omega) | exact ((hp.a.mul hq.b).add (hq.a.mul hp.b)).sm (by omega))) (evs.l rfl (kC_Z (by first | exact hp.a.sm (by omega) | exact hp.b.sm (by omega) | exact hq.a.sm (by omega) | exact hq.b.sm (by omega) | exact (hp.a.mul hq.a).sm (by omega) | exact (hp.b.mul hq.b).sm (by omega) | exact (hp.a.mul hq.b).sm (by omega) | exact (hq.a.mul hp.b).sm (by omega) | exact (hp.b.mul hq.a).sm (by omega) | exact ((hp.a.mul hq.b).add (hq.a.mul hp.b)).sm (by omega))) evs.nil)) (c_zint_Mul ((rq p).1) ((rq q).2)))
    | 5, h_ => cases h_; exact Ob.f rfl .n fun N => (O.faP rfl fld60_0 (Lens.fst (Lens.id _)) rfl)
    | 6, h_ => cases h_; exact Ob.f rfl .n fun N => (O.ldP rfl ty31)
    | 7, h_ => cases h_; exact Ob.f rfl .n fun N => (O.faP rfl fld60_1 (Lens.snd (Lens.id _)) rfl)
    | 8, h_ => cases h_; exact Ob.f rfl .n fun N => (O.ldP rfl ty31)
    | 9, h_ => cases h_; exact Ob.f rfl .n fun N => (O.fn fn76 (evs.l rfl (kC_Z (by first | exact hp.a.sm (by omega) | exact hp.b.sm (by omega) | exact hq.a.sm (by omega) | exact hq.b.sm (by omega) | exact (hp.a.mul hq.a).sm (by omega) | exact (hp.b.mul hq.b).sm (by omega) | exact (hp.a.mul hq.b).sm (by omega) | exact (hq.a.mul hp.b).sm (by omega) | exact (hp.b.mul hq.a).sm (by omega) | exact ((hp.a.mul hq.b).add (hq.a.mul hp.b)).sm (by omega))) (evs.l rfl (kC_Z (by first | exact hp.a.sm (by omega) | exact hp.b.sm (by omega) | exact hq.a.sm (by omega) | exact hq.b.sm (by omega) | exact (hp.a.mul hq.a).sm (by omega) | exact (hp.b.mul hq.b).sm (by omega) | exact (hp.a.mul hq.b).sm (by omega) | exact (hq.a.mul hp.b).sm (by omega) | exact (hp.b.mul hq.a).sm (by omega) | exact ((hp.a.mul hq.b).add (hq.a.mul hp.b)).sm (by omega))) evs.nil)) (c_zint_Mul ((rq q).1) ((rq p).2)))
    | 10, h_ => cases h_; exact Ob.f rfl .n fun N => (O.fn fn77 (evs.l rfl (kC_Z (by first | exact hp.a.sm (by omega) | exact hp.b.sm (by omega) | exact hq.a.sm (by omega) | exact hq.b.sm (by omega) | exact (hp.a.mul hq.a).sm (by omega) | exact (hp.b.mul hq.b).sm (by omega) | exact (hp.a.mul hq.b).sm (by omega) | exact (hq.a.mul hp.b).sm (by omega) | exact (hp.b.mul hq.a).sm (by omega) | exact ((hp.a.mul hq.b).add (hq.a.mul hp.b)).sm (by omega))) (evs.l rfl (kC_Z (by first | exact hp.a.sm (by omega) | exact hp.b.sm (by omega) | exact hq.a.sm (by omega) | exact hq.b.sm (by omega) | exact (hp.a.mul hq.a).sm (by omega) | exact (hp.b.mul hq.b).sm (by omega) | exact (hp.a.mul hq.b).sm (by omega) | exact (hq.a.mul hp.b).sm (by omega) | exact (hp.b.mul hq.a).sm (by omega) | exact ((hp.a.mul hq.b).add (hq.a.mul hp.b)).sm (by omega))) evs.nil)) (c_zint_Add (((rq p).1) * ((rq q).2)) (((rq q).1) * ((rq p).2))))
    | 11, h_ => cases h_; exact Ob.f rfl .n fun N => (O.faP rfl fld60_1 (Lens.snd (Lens.id _)) rfl)
    | 12, h_ => cases h_; exact Ob.f rfl .n fun N => (O.ldP rfl ty31)
    | 13, h_ => cases h_; exact Ob.f rfl .n fun N => (O.faP rfl fld60_1 (Lens.snd (Lens.id _)) rfl)
    | 14, h_ => cases h_; exact Ob.f rfl .n fun N => (O.ldP rfl ty31)
    | 15, h_ => cases h_; exact Ob.f rfl .n fun N => (O.fn fn76 (evs.l rfl (kC_Z (by first | exact hp.a.sm (by omega) | exact hp.b.sm (by omega) | exact hq.a.sm (by omega) | exact hq.b.sm (by omega) | exact (hp.a.mul hq.a).sm (by omega) | exact (hp.b.mul hq.b).sm (by omega) | exact (hp.a.mul hq.b).sm (by omega) | exact (hq.a.mul hp.b).sm (by omega) | exact (hp.b.mul hq.a).sm (by omega) | exact ((hp.a.mul hq.b).add (hq.a.mul hp.b)).sm (by omega))) (evs.l rfl (kC_Z (by first | exact hp.a.sm (by omega) | exact hp.b.sm (by omega) | exact hq.a.sm (by omega) | exact hq.b.sm (by omega) | exact (hp.a.mul hq.a).sm (by omega) | exact (hp.b.mul hq.b).sm (by omega) | exact (hp.a.mul hq.b).sm (by omega) | exact (hq.a.mul hp.b).sm (by omega) | exact (hp.b.mul hq.a).sm (by omega) | exact ((hp.a.mul hq.b).add (hq.a.mul hp.b)).sm (by omega))) evs.nil)) (c_zint_Mul ((rq p).2) ((rq q).2)))
    | 16, h_ => cases h_; exact Ob.f rfl .n fun N => (O.fn fn165 (evs.l rfl (kC_Z (by first | exact hp.a.sm (by omega) | exact hp.b.sm (by omega) | exact hq.a.sm (by omega) | exact hq.b.sm (by omega) | exact (hp.a.mul hq.a).sm (by omega) | exact (hp.b.mul hq.b).sm (by omega) | exact (hp.a.mul hq.b).sm (by omega) | exact (hq.a.mul hp.b).sm (by omega) | exact (hp.b.mul hq.a).sm (by omega) | exact ((hp.a.mul hq.b).add (hq.a.mul hp.b)).sm (by omega))) (evs.l rfl (kC_Z (by first | exact hp.a.sm (by omega) | exact hp.b.sm (by omega) | exact hq.a.sm (by omega) | exact hq.b.sm (by omega) | exact (hp.a.mul hq.a).sm (by omega) | exact (hp.b.mul hq.b).sm (by omega) | exact (hp.a.mul hq.b).sm (by omega) | exact (hq.a.mul hp.b).sm (by omega) | exact (hp.b.mul hq.a).sm (by omega) | exact ((hp.a.mul hq.b).add (hq.a.mul hp.b)).sm (by omega))) evs.nil)) (c_rat_made ((((rq p).1) * ((rq q).2)) + (((rq q).1) * ((rq p).2))) (((rq p).2) * ((rq q).2)) (by exact Int.mul_ne_zero (rq_den_ne p) (rq_den_ne q))))
    | n_ + 17, h_ => simp at h_
  refine WP.t .n (O.stW (l := (kPair kC kC)) (u := rmk ((((rq p).1) * ((rq q).2)) + (((rq q).1) * ((rq p).2))) (((rq p).2) * ((rq q).2))) 0 rfl rfl rfl ty60 rfl (VP.le_refl _)) ?_
  refine WP.nil ?_
  refine QE.next ?_
  refine CW.ret ?_
  refine ST.obtold 0 rfl (OB.box_eq (y := (rq (p + q))) (rq_add p q)) ?_
  exact QE.done (.inl rfl) rfl (ResOk.c rfl (mem_at 0 rfl) ty60 ResOk.nil) (OImp.sub (List.nil_sublist _)) ⟨rfl, rfl⟩

set_option maxRecDepth 20000 in
set_option maxHeartbeats 1000000 in
theorem c_rat_Add (n : Nat) (p q : Rat) (hp : RZ n p) (hq : RZ n q) (hn : n ≤ 68719476736) : Fn Try.prog 240 [(kPair kC kC).is (rq p), (kPair kC kC).is (rq q)] (VP.tup [(kPair kC kC).is (rq (p + q)), (kInt .i64).is 0]) := by
  refine Con.enter Try.func240 rfl rfl fun m w => ?_
  refine CW.seq ?_
  refine CW.region ?_
  refine WP.bx .n rfl fun b1 => ?_
  refine WP.bx .n rfl fun b2 => ?_
  refine WP.al .n z60_pr_C_C_ fun b3 => ?_
  refine WP.s .n (O.asg rfl) ?_
  refine WP.nil ?_
  refine QE.next ?_
  refine CW.seq ?_
  refine CW.region ?_
  refine WP.s .n (O.ld rfl (mem_at 2 rfl) (Lens.id _) ty60 rfl) ?_
  refine WP.s .n (O.ld rfl (mem_at 1 rfl) (Lens.id _) ty60 rfl) ?_
  refine ST.freezeb 2 rfl (.keep (i := 0) rfl (.keep (i := 1) rfl (.hit (i := 2) rfl (.keep (i := 3) rfl (.keep (i := 4) rfl (.keep (i := 5) rfl (.keep (i := 6) rfl (.keep (i := 7) rfl .nil)))))))) ?_
  refine ST.freezeb 1 rfl (.keep (i := 0) rfl (.keep (i := 1) rfl (.keep (i := 2) rfl (.hit (i := 3) rfl (.keep (i := 4) rfl (.keep (i := 5) rfl (.keep (i := 6) rfl (.keep (i := 7) rfl .nil)))))))) ?_
  refine WP.s .n (O.mkf (evs.c rfl (evs.c rfl evs.nil))) ?_
  refine WP.s .n (O.fn fn260 (evs.c rfl (evs.c rfl (evs.c rfl evs.nil))) (c_rat_two n p q (p + q) 262 [VP.pim (kPair kC kC) (rq p), VP.pim (kPair kC kC) (rq q)] fn262 (c_rat_Add1 n p q hp hq hn) hp hq hn)) ?_
  refine WP.s .n (O.ext rfl rfl) ?_
  refine WP.s .n (O.ext rfl rfl) ?_
  refine WP.t .n (O.stW (l := (kPair kC kC)) (u := rq (p + q)) 0 rfl rfl rfl ty60 rfl (VP.le_refl _)) ?_
  refine WP.s .n (O.asg rfl) ?_
  refine WP.nil ?_
  refine QE.next ?_
  refine CW.ret ?_
  exact QE.done (.inl rfl) rfl (ResOk.c rfl (mem_at 0 rfl) ty60 (ResOk.t rfl ResOk.nil)) (OImp.sub (List.nil_sublist _)) ⟨rfl, rfl⟩

set_option maxRecDepth 20000 in
set_option maxHeartbeats 1000000 in
theorem c_rat_Cmp (n : Nat) (p q : Rat) (hp : RZ n p) (hq : RZ n q) (hn : n ≤ 68719476736) : Fn Try.prog 241 [(kPair kC kC).is (rq p), (kPair kC kC).is (rq q)] (VP.tup [(kInt .i64).is (((rq p).1 * (rq q).2 - (rq q).1 * (rq p).2).sign), (kInt .i64).is 0]) := by
  refine Con.enter Try.func241 rfl rfl fun m w => ?_
  have hv2 : ∀ x, x ∈ [rq p, rq q] → 0 < x.2 ∧ Sm x.2 := by intro x hx; rcases List.mem_cons.1 hx with rfl | hx; exact ⟨rq_den_pos p, hp.b.sm (by omega)⟩; rcases List.mem_cons.1 hx with rfl | hx; exact ⟨rq_den_pos q, hq.b.sm (by omega)⟩; cases hx
  refine CW.seq ?_
  refine CW.region ?_
  refine WP.bx .n rfl fun b1 => ?_
  refine WP.bx .n rfl fun b2 => ?_
  refine WP.s .n (O.asg rfl) ?_
  refine WP.s .n (O.asg rfl) ?_
  refine WP.nil ?_
  refine QE.next ?_
  refine CW.seq ?_
  refine CW.seq ?_
  refine CW.region ?_
  refine WP.s .n (O.ld rfl (mem_at 1 rfl) (Lens.id _) ty60 rfl) ?_
  refine WP.s .n (O.ld rfl (mem_at 0 rfl) (Lens.id _) ty60 rfl) ?_
  refine WP.s .n (O.bs Try.underlying195 el60_pr_C_C_ (evl.c rfl (evl.c rfl evl.n)) rfl (by decide)) ?_
  refine WP.s .n (O.fn fn231 (evs.c rfl evs.nil) (c_rat_valid [rq p, rq q] hv2)) ?_
  refine WP.s .n (O.asg rfl) ?_
  refine WP.nil ?_
  refine QE.next ?_
  refine CW.seq ?_
  refine CW.region ?_
  refine WP.s .n (O.mv rfl) ?_
  refine WP.s .n (O.ne rfl rfl) ?_
  refine WP.nil ?_
  refine QE.next ?_
  refine CW.condD rfl (fun h => absurd h (fun h => h rfl)) (fun h_t12 => ?_)
  refine CW.skip ?_
  refine QE.next ?_
  refine CW.seq ?_
  refine CW.draw (Γ := [.fr (VP.ex (.pointer (some ⟨b1, 0, none⟩))), .fr (kC.is ((rq p).1)), .fr (VP.ex (.pointer (some ⟨b2, 2, none⟩))), .fr (kC.is ((rq q).2)), .fr (kC.is (((rq p).1) * ((rq q).2))), .fr (VP.ex (.pointer (some ⟨b2, 0, none⟩))), .fr (kC.is ((rq q).1)), .fr (VP.ex (.pointer (some ⟨b1, 2, none⟩))), .fr (kC.is ((rq p).2)), .fr (kC.is (((rq q).1) * ((rq p).2))), .fr ((kInt .i64).is (((((rq p).1) * ((rq q).2)) - (((rq q).1) * ((rq p).2))).sign))]) (lates := [false, false, false, false, false, false, false, false, false, false, false]) (by kernel_rfl) (Chk.of rfl (by kernel_rfl) rfl) (fun _ _ _ _ _ h => h) (fun q_ x_ h_ => ?_) (fun σ1 => ?_)
  · match q_, h_ with
    | 0, h_ => cases h_; exact Ob.f rfl .n fun N => (O.fa rfl fld60_0 rfl)
    | 1, h_ => cases h_; exact Ob.f rfl .n fun N => (O.ld rfl (mem_app N (mem_at 1 rfl)) (Lens.fst (Lens.id _)) ty31 rfl)
    | 2, h_ => cases h_; exact Ob.f rfl .n fun N => (O.fa rfl fld60_1 rfl)
    | 3, h_ => cases h_; exact Ob.f rfl .n fun N => (O.ld rfl (mem_app N (mem_at 0 rfl)) (Lens.snd (Lens.id _)) ty31 rfl)
    | 4, h_ => cases h_; exact Ob.f rfl .n fun N => (O.fn fn76 (evs.l rfl (kC_Z (by first | exact hp.a.sm (by omega) | exact hp.b.sm (by omega) | exact hq.a.sm (by omega) | exact hq.b.sm (by omega) | exact (hp.a.mul hq.a).sm (by omega) | exact (hp.b.mul hq.b).sm (by omega) | exact (hp.a.mul hq.b).sm (by omega) | exact (hq.a.mul hp.b).sm (by omega) | exact (hp.b.mul hq.a).sm (by omega) | exact ((hp.a.mul hq.b).add (hq.a.mul hp.b)).sm (by omega))) (evs.l rfl (kC_Z (by first | exact hp.a.sm (by omega) | exact hp.b.sm (by omega) | exact hq.a.sm (by omega) | exact hq.b.sm (by omega) | exact (hp.a.mul hq.a).sm (by omega) | exact (hp.b.mul hq.b).sm (by omega) | exact (hp.a.mul hq.b).sm (by omega) | exact (hq.a.mul hp.b).sm (by omega) | exact (hp.b.mul hq.a).sm (by omega) | exact ((hp.a.mul hq.b).add (hq.a.mul hp.b)).sm (by omega))) evs.nil)) (c_zint_Mul ((rq p).1) ((rq q).2)))
    | 5, h_ => cases h_; exact Ob.f rfl .n fun N => (O.fa rfl fld60_0 rfl)
    | 6, h_ => cases h_; exact Ob.f rfl .n fun N => (O.ld rfl (mem_app N (mem_at 0 rfl)) (Lens.fst (Lens.id _)) ty31 rfl)
    | 7, h_ => cases h_; exact Ob.f rfl .n fun N => (O.fa rfl fld60_1 rfl)
    | 8, h_ => cases h_; exact Ob.f rfl .n fun N => (O.ld rfl (mem_app N (mem_at 1 rfl)) (Lens.snd (Lens.id _)) ty31 rfl)
    | 9, h_ => cases h_; exact Ob.f rfl .n fun N => (O.fn fn76 (evs.l rfl (kC_Z (by first | exact hp.a.sm (by omega) | exact hp.b.sm (by omega) | exact hq.a.sm (by omega) | exact hq.b.sm (by omega) | exact (hp.a.mul hq.a).sm (by omega) | exact (hp.b.mul hq.b).sm (by omega) | exact (hp.a.mul hq.b).sm (by omega) | exact (hq.a.mul hp.b).sm (by omega) | exact (hp.b.mul hq.a).sm (by omega) | exact ((hp.a.mul hq.b).add (hq.a.mul hp.b)).sm (by omega))) (evs.l rfl (kC_Z (by first | exact hp.a.sm (by omega) | exact hp.b.sm (by omega) | exact hq.a.sm (by omega) | exact hq.b.sm (by omega) | exact (hp.a.mul hq.a).sm (by omega) | exact (hp.b.mul hq.b).sm (by omega) | exact (hp.a.mul hq.b).sm (by omega) | exact (hq.a.mul hp.b).sm (by omega) | exact (hp.b.mul hq.a).sm (by omega) | exact ((hp.a.mul hq.b).add (hq.a.mul hp.b)).sm (by omega))) evs.nil)) (c_zint_Mul ((rq q).1) ((rq p).2)))
    | 10, h_ => cases h_; exact Ob.f rfl .n fun N => (O.fn fn75 (evs.l rfl (kC_Z (by first | exact hp.a.sm (by omega) | exact hp.b.sm (by omega) | exact hq.a.sm (by omega) | exact hq.b.sm (by omega) | exact (hp.a.mul hq.a).sm (by omega) | exact (hp.b.mul hq.b).sm (by omega) | exact (hp.a.mul hq.b).sm (by omega) | exact (hq.a.mul hp.b).sm (by omega) | exact (hp.b.mul hq.a).sm (by omega) | exact ((hp.a.mul hq.b).add (hq.a.mul hp.b)).sm (by omega))) (evs.l rfl (kC_Z (by first | exact hp.a.sm (by omega) | exact hp.b.sm (by omega) | exact hq.a.sm (by omega) | exact hq.b.sm (by omega) | exact (hp.a.mul hq.a).sm (by omega) | exact (hp.b.mul hq.b).sm (by omega) | exact (hp.a.mul hq.b).sm (by omega) | exact (hq.a.mul hp.b).sm (by omega) | exact (hp.b.mul hq.a).sm (by omega) | exact ((hp.a.mul hq.b).add (hq.a.mul hp.b)).sm (by omega))) evs.nil)) (c_zint_Compare (((rq p).1) * ((rq q).2)) (((rq q).1) * ((rq p).2))))
    | n_ + 11, h_ => simp at h_
  refine WP.s .n (O.asg rfl) ?_
  refine WP.s .n (O.asg rfl) ?_
  refine WP.nil ?_
  refine QE.next ?_
  refine CW.ret ?_
  exact QE.done (.inl rfl) rfl (ResOk.tl rfl (is_eq (y := ((rq p).1 * (rq q).2 - (rq q).1 * (rq p).2).sign) (by first | rfl | omega | assumption)) (ResOk.t rfl ResOk.nil)) (OImp.sub (List.nil_sublist _)) ⟨rfl, rfl⟩

set_option maxRecDepth 20000 in
set_option maxHeartbeats 1000000 in
theorem c_rat_Near (n : Nat) (p : Rat) (hp : RZ n p) (hn : n ≤ 68719476736) : Fn Try.prog 187 [(kPair kC kC).is (rq p)] (VP.tup [kC.is (nearQ p), (kInt .i64).is 0]) := by
  refine Con.enter Try.func187 rfl rfl fun m w => ?_
  have hv1 : ∀ x, x ∈ [rq p] → 0 < x.2 ∧ Sm x.2 := by intro x hx; rcases List.mem_cons.1 hx with rfl | hx; exact ⟨rq_den_pos p, hp.b.sm (by omega)⟩; cases hx
  refine CW.seq ?_
  refine CW.region ?_
  refine WP.bx .n rfl fun b1 => ?_
  refine WP.al .n z31_C fun b2 => ?_
  refine WP.s .n (O.asg rfl) ?_
  refine WP.nil ?_
  refine QE.next ?_
  refine CW.seq ?_
  refine CW.seq ?_
  refine CW.region ?_
  refine WP.s .n (O.ld rfl (mem_at 1 rfl) (Lens.id _) ty60 rfl) ?_
  refine WP.s .n (O.bs Try.underlying195 el60_pr_C_C_ (evl.c rfl evl.n) rfl (by decide)) ?_
  refine WP.s .n (O.fn fn231 (evs.c rfl evs.nil) (c_rat_valid [rq p] hv1)) ?_
  refine WP.s .n (O.asg rfl) ?_
  refine WP.nil ?_
  refine QE.next ?_
  refine CW.seq ?_
  refine CW.region ?_
  refine WP.s .n (O.mv rfl) ?_
  refine WP.s .n (O.ne rfl rfl) ?_
  refine WP.nil ?_
  refine QE.next ?_
  refine CW.condD rfl (fun h => absurd h (fun h => h rfl)) (fun h_t11 => ?_)
  refine CW.skip ?_
  refine QE.next ?_
  refine CW.seq ?_
  refine CW.region ?_
  refine WP.s .n (O.fa rfl fld60_0 rfl) ?_
  refine WP.s .n (O.ld rfl (mem_at 1 rfl) (Lens.fst (Lens.id _)) ty31 rfl) ?_
  refine WP.s .n (O.fa rfl fld60_1 rfl) ?_
  refine WP.s .n (O.ld rfl (mem_at 1 rfl) (Lens.snd (Lens.id _)) ty31 rfl) ?_
  refine WP.s .n (O.fn fn232 (evs.l rfl (kC_Z (by first | exact hp.a.sm (by omega) | exact hp.b.sm (by omega))) (evs.l rfl (kC_Z (by first | exact hp.a.sm (by omega) | exact hp.b.sm (by omega))) evs.nil)) (c_zint_Near n ((rq p).1) ((rq p).2) hp.a hp.b (rq_den_pos p) (by omega))) ?_
  refine WP.s .n (O.mv rfl) ?_
  refine WP.s .n (O.ext rfl rfl) ?_
  refine WP.s .n (O.ext rfl rfl) ?_
  refine WP.al .n z31_C fun b3 => ?_
  refine WP.t .n (O.stW (l := kC) (u := nearI ((rq p).1) ((rq p).2)) 0 rfl rfl rfl ty31 rfl (VP.le_refl _)) ?_
  refine WP.s .n (O.asg rfl) ?_
  refine WP.nil ?_
  refine QE.next ?_
  refine CW.seq ?_
  refine CW.region ?_
  refine WP.s .n (O.ld rfl (mem_at 0 rfl) (Lens.id _) ty31 rfl) ?_
  refine WP.t .n (O.stW (l := kC) (u := nearI ((rq p).1) ((rq p).2)) 1 rfl rfl rfl ty31 rfl (VP.le_refl _)) ?_
  refine WP.s .n (O.asg rfl) ?_
  refine WP.nil ?_
  refine QE.next ?_
  refine CW.ret ?_
  exact QE.done (.inl rfl) rfl (ResOk.cl rfl (mem_at 1 rfl) ty31 (is_eq (y := nearQ p) (by first | rfl | omega | assumption)) (ResOk.t rfl ResOk.nil)) (OImp.sub (List.nil_sublist _)) ⟨rfl, rfl⟩

end Fw

