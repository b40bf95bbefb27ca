/- Proved: QuadReduced, for every input of bulk at most 1048576; no other condition. -/
import Derived.Test.YtjbfmocbophmlaaCQuadReducedD
/- Shape, order and first entries: what the functions answer. -/
set_option linter.unusedVariables false
set_option linter.unusedSimpArgs false
set_option exponentiation.threshold 400
namespace Fw
open Go Go.Proofs

set_option maxRecDepth 20000 in
set_option maxHeartbeats 1000000 in
theorem c_mat_Shape (b : List (List Int)) : Fn Try.prog 61 [(kSl (kSl kZ)).is b] (VP.tup [(kInt .i64).is (shN b), (kInt .i64).is (shM b), (kInt .i64).is (shE b)]) := by
  refine Con.enter Try.func61 rfl rfl fun m w => ?_
  refine ST.fact (i := 0) rfl sl_len fun hB => ?_
  refine CW.seq ?_
  refine CW.region ?_
  refine WP.s .n (O.asg rfl) ?_
  refine WP.s .n (O.asg rfl) ?_
  refine WP.s .n (O.asg rfl) ?_
  refine WP.nil ?_
  refine QE.next ?_
  refine CW.seq ?_
  refine CW.seq ?_
  refine CW.region ?_
  refine WP.s .n (O.mv rfl) ?_
  refine WP.s .n (O.lenS rfl Try.underlying45) ?_
  refine WP.s .n (O.eq rfl rfl) ?_
  refine WP.nil ?_
  refine QE.next ?_
  refine CW.condD rfl (fun h_t9 => ?_) (fun h_t9 => ?_)
  · refine CW.seq ?_
    refine CW.region ?_
    refine WP.s .n (O.asg rfl) ?_
    refine WP.s .n (O.asg rfl) ?_
    refine WP.s .n (O.asg rfl) ?_
    refine WP.nil ?_
    refine QE.next ?_
    refine CW.ret ?_
    refine QE.thenR ?_
    have hx := sh_nil (b := b) (by omega)
    refine ST.told 2 rfl (is_eq (y := (shN b)) (by rw [hx.1])) ?_
    refine ST.told 3 rfl (is_eq (y := (shM b)) (by rw [hx.2.1])) ?_
    refine ST.told 4 rfl (is_eq (y := (shE b)) (by rw [hx.2.2])) ?_
    exact QE.done (.inl rfl) rfl (ResOk.t rfl (ResOk.t rfl (ResOk.t rfl ResOk.nil))) (OImp.sub (List.nil_sublist _)) ⟨rfl, rfl⟩
  · refine CW.skip ?_
    refine QE.next ?_
    refine CW.seq ?_
    refine CW.seq ?_
    refine CW.region ?_
    refine WP.s .n (O.mv rfl) ?_
    refine WP.s .n (O.lenS rfl Try.underlying45) ?_
    refine WP.s .n (O.mv rfl) ?_
    refine WP.nil ?_
    refine QE.next ?_
    refine CW.block ?_
    refine CW.loop (fun (i : Nat) => i ≤ b.length ∧ ∀ j, j < i → (b.getD j []).length = (b.getD 0 []).length) (fun (i : Nat) => [(0, (kSl (kSl kZ)).is b), (10, (kSl (kSl kZ)).is b), (11, (kInt .i64).is (b.length : Int)), (12, (kInt .i64).is (i : Int))]) (fun (i : Nat) => []) (fun (i : Nat) => b.length - i) 0 ⟨Nat.zero_le _, fun j hj => absurd hj (by omega)⟩ (Imp.cons rfl (Imp.cons rfl (Imp.cons rfl (Imp.consLe rfl (is_eq (y := (0 : Int)) (by first | rfl | omega | assumption)) Imp.nil)))) (OImp.refl _) ?_
    intro i ⟨hi, hl⟩
    refine CW.seq ?_
    refine CW.region ?_
    refine WP.s .n (O.lt rfl rfl) ?_
    refine WP.nil ?_
    refine QE.next ?_
    refine CW.seq ?_
    refine CW.condD rfl (fun h_t13 => ?_) (fun h_t13 => ?_)
    · refine CW.skip ?_
      refine QE.next ?_
      refine CW.seq ?_
      refine CW.block ?_
      refine CW.seq ?_
      refine CW.region ?_
      refine WP.s .n (O.ix i rfl rfl Try.underlying45 ty42 rfl (v := (b.getD i [])) (gd [] (by omega))) ?_
      refine WP.s .n (O.ldP rfl ty42) ?_
      refine WP.s .n (O.asg rfl) ?_
      refine WP.nil ?_
      refine QE.next ?_
      refine CW.seq ?_
      refine CW.region ?_
      refine WP.s .n (O.mv rfl) ?_
      refine WP.s .n (O.lenS rfl Try.underlying42) ?_
      refine WP.s .n (O.mv rfl) ?_
      refine WP.s .n (O.ix 0 rfl rfl Try.underlying45 ty42 rfl (v := (b.getD 0 [])) (gd [] (by omega))) ?_
      refine WP.s .n (O.ldP rfl ty42) ?_
      refine WP.s .n (O.lenS rfl Try.underlying42) ?_
      refine WP.s .n (O.ne rfl rfl) ?_
      refine WP.nil ?_
      refine QE.next ?_
      refine CW.condD rfl (fun h_t22 => ?_) (fun h_t22 => ?_)
      · refine CW.seq ?_
        refine CW.region ?_
        refine WP.s .n (O.asg rfl) ?_
        refine WP.s .n (O.asg rfl) ?_
        refine WP.s .n (O.asg rfl) ?_
        refine WP.nil ?_
        refine QE.next ?_
        refine CW.ret ?_
        refine QE.blkR ?_
        refine QE.thenR ?_
        refine QE.thenR ?_
        refine QE.blkR ?_
        refine QE.thenR ?_
        have hx := sh_no (b := b) (i := i) (by omega) (by omega)
        refine ST.told 2 rfl (is_eq (y := (shN b)) (by rw [hx.1])) ?_
        refine ST.told 3 rfl (is_eq (y := (shM b)) (by rw [hx.2.1])) ?_
        refine ST.told 4 rfl (is_eq (y := (shE b)) (by rw [hx.2.2])) ?_
        exact QE.done (.inl rfl) rfl (ResOk.t rfl (ResOk.t rfl (ResOk.t rfl ResOk.nil))) (OImp.sub (List.nil_sublist _)) ⟨rfl, rfl⟩
      · refine CW.skip ?_
        refine QE.blkN ?_
        refine QE.next ?_
        refine CW.region ?_
        refine WP.s .n (O.add rfl rfl (c := ((i : Int) + 1)) (w64 (by omega))) ?_
        refine WP.s .n (O.mv rfl) ?_
        refine WP.nil ?_
        exact QE.round (i + 1) (by omega) ⟨by omega, fun j hj => if e : j = i then by subst e; omega else hl j (by omega)⟩ (Imp.cons rfl (Imp.cons rfl (Imp.cons rfl (Imp.consLe rfl (is_eq (y := (((i + 1) : Nat) : Int)) (by first | rfl | omega | assumption)) Imp.nil)))) (OImp.refl _)
    · refine CW.exit ?_
      refine QE.thenE ?_
      refine QE.thenE ?_
      refine QE.blkH ?_
      refine QE.next ?_
      refine CW.seq ?_
      refine CW.join [(0, (kSl (kSl kZ)).is b), (2, (kInt .i64).is (b.length : Int)), (3, (kInt .i64).is ((b.getD 0 []).length : Int)), (4, (kInt .i64).is 0), (10, (kSl (kSl kZ)).is b), (11, (kInt .i64).is (b.length : Int)), (12, (kInt .i64).is (i : Int)), (13, kBool.is (decide ((i : Int) < (b.length : Int)))), (24, (kSl (kSl kZ)).is b), (25, (kInt .i64).is (b.length : Int)), (26, (kSl (kSl kZ)).is b), (27, VP.pim (kSl kZ) (b.getD 0 [])), (28, (kSl kZ).is (b.getD 0 [])), (29, (kInt .i64).is ((b.getD 0 []).length : Int))] [] ?_ ?_
      · refine CW.any (by kernel_rfl) ?_
        refine DA.first 0 rfl (by kernel_rfl) (by kernel_rfl) (by kernel_rfl) (fun _ _ _ _ _ h => h) .n (OV.mv rfl) ?_
        refine DA.first 2 rfl (by kernel_rfl) (by kernel_rfl) (by kernel_rfl) (fun _ _ _ _ _ h => h) .n (OV.mv rfl) ?_
        refine DA.go 1 [3] (by kernel_rfl) ⟨?_, ⟨?_, trivial⟩⟩
        · refine DO.w rfl ?_
          refine WP.s .n (O.lenS rfl Try.underlying45) ?_
          refine WP.nil ?_
          refine DO.nx ?_
          refine DA.go 3 [6] (by kernel_rfl) ⟨?_, ⟨?_, trivial⟩⟩
          · refine DO.w rfl ?_
            refine WP.s .n (O.ix 0 rfl rfl Try.underlying45 ty42 rfl (v := (b.getD 0 [])) (gd [] (by omega))) ?_
            refine WP.nil ?_
            refine DO.nx ?_
            refine DA.go 4 [6] (by kernel_rfl) ⟨?_, ⟨?_, trivial⟩⟩
            · refine DO.w rfl ?_
              refine WP.s .n (O.ldP rfl ty42) ?_
              refine WP.nil ?_
              refine DO.nx ?_
              refine DA.go 5 [6] (by kernel_rfl) ⟨?_, ⟨?_, trivial⟩⟩
              · refine DO.w rfl ?_
                refine WP.s .n (O.lenS rfl Try.underlying42) ?_
                refine WP.nil ?_
                refine DO.nx ?_
                refine DA.go 6 [] (by kernel_rfl) ⟨?_, trivial⟩
                refine DO.w rfl ?_
                refine WP.s .n (O.asg rfl) ?_
                refine WP.nil ?_
                refine DO.nx ?_
                refine DA.go 7 [] (by kernel_rfl) ⟨?_, trivial⟩
                refine DO.w rfl ?_
                refine WP.s .n (O.asg rfl) ?_
                refine WP.nil ?_
                refine DO.nx ?_
                refine DA.go 8 [] (by kernel_rfl) ⟨?_, trivial⟩
                refine DO.w rfl ?_
                refine WP.s .n (O.asg rfl) ?_
                refine WP.nil ?_
                refine DO.nx ?_
                refine DA.nil (by kernel_rfl) ?_
                exact QE.join (Imp.cons rfl (Imp.cons rfl (Imp.cons rfl (Imp.cons rfl (Imp.cons rfl (Imp.cons rfl (Imp.cons rfl (Imp.cons rfl (Imp.cons rfl (Imp.cons rfl (Imp.cons rfl (Imp.cons rfl (Imp.cons rfl (Imp.cons rfl Imp.nil)))))))))))))) (OImp.refl _)
              · refine DO.w rfl ?_
                refine WP.s .n (O.asg rfl) ?_
                refine WP.nil ?_
                refine DO.nx ?_
                refine DA.go 5 [] (by kernel_rfl) ⟨?_, trivial⟩
                refine DO.w rfl ?_
                refine WP.s .n (O.lenS rfl Try.underlying42) ?_
                refine WP.nil ?_
                refine DO.nx ?_
                refine DA.go 7 [] (by kernel_rfl) ⟨?_, trivial⟩
                refine DO.w rfl ?_
                refine WP.s .n (O.asg rfl) ?_
                refine WP.nil ?_
                refine DO.nx ?_
                refine DA.go 8 [] (by kernel_rfl) ⟨?_, trivial⟩
                refine DO.w rfl ?_
                refine WP.s .n (O.asg rfl) ?_
                refine WP.nil ?_
                refine DO.nx ?_
                refine DA.nil (by kernel_rfl) ?_
                exact QE.join (Imp.cons rfl (Imp.cons rfl (Imp.cons rfl (Imp.cons rfl (Imp.cons rfl (Imp.cons rfl (Imp.cons rfl (Imp.cons rfl (Imp.cons rfl (Imp.cons rfl (Imp.cons rfl (Imp.cons rfl (Imp.cons rfl (Imp.cons rfl Imp.nil)))))))))))))) (OImp.refl _)
            · refine DO.w rfl ?_
              refine WP.s .n (O.asg rfl) ?_
              refine WP.nil ?_
              refine DO.nx ?_
              refine DA.go 4 [] (by kernel_rfl) ⟨?_, trivial⟩
              refine DO.w rfl ?_
              refine WP.s .n (O.ldP rfl ty42) ?_
              refine WP.nil ?_
              refine DO.nx ?_
              refine DA.go 5 [] (by kernel_rfl) ⟨?_, trivial⟩
              refine DO.w rfl ?_
              refine WP.s .n (O.lenS rfl Try.underlying42) ?_
              refine WP.nil ?_
              refine DO.nx ?_
              refine DA.go 7 [] (by kernel_rfl) ⟨?_, trivial⟩
              refine DO.w rfl ?_
              refine WP.s .n (O.asg rfl) ?_
              refine WP.nil ?_
              refine DO.nx ?_
              refine DA.go 8 [] (by kernel_rfl) ⟨?_, trivial⟩
              refine DO.w rfl ?_
              refine WP.s .n (O.asg rfl) ?_
              refine WP.nil ?_
              refine DO.nx ?_
              refine DA.nil (by kernel_rfl) ?_
              exact QE.join (Imp.cons rfl (Imp.cons rfl (Imp.cons rfl (Imp.cons rfl (Imp.cons rfl (Imp.cons rfl (Imp.cons rfl (Imp.cons rfl (Imp.cons rfl (Imp.cons rfl (Imp.cons rfl (Imp.cons rfl (Imp.cons rfl (Imp.cons rfl Imp.nil)))))))))))))) (OImp.refl _)
          · refine DO.w rfl ?_
            refine WP.s .n (O.asg rfl) ?_
            refine WP.nil ?_
            refine DO.nx ?_
            refine DA.go 3 [] (by kernel_rfl) ⟨?_, trivial⟩
            refine DO.w rfl ?_
            refine WP.s .n (O.ix 0 rfl rfl Try.underlying45 ty42 rfl (v := (b.getD 0 [])) (gd [] (by omega))) ?_
            refine WP.nil ?_
            refine DO.nx ?_
            refine DA.go 4 [] (by kernel_rfl) ⟨?_, trivial⟩
            refine DO.w rfl ?_
            refine WP.s .n (O.ldP rfl ty42) ?_
            refine WP.nil ?_
            refine DO.nx ?_
            refine DA.go 5 [] (by kernel_rfl) ⟨?_, trivial⟩
            refine DO.w rfl ?_
            refine WP.s .n (O.lenS rfl Try.underlying42) ?_
            refine WP.nil ?_
            refine DO.nx ?_
            refine DA.go 7 [] (by kernel_rfl) ⟨?_, trivial⟩
            refine DO.w rfl ?_
            refine WP.s .n (O.asg rfl) ?_
            refine WP.nil ?_
            refine DO.nx ?_
            refine DA.go 8 [] (by kernel_rfl) ⟨?_, trivial⟩
            refine DO.w rfl ?_
            refine WP.s .n (O.asg rfl) ?_
            refine WP.nil ?_
            refine DO.nx ?_
            refine DA.nil (by kernel_rfl) ?_
            exact QE.join (Imp.cons rfl (Imp.cons rfl (Imp.cons rfl (Imp.cons rfl (Imp.cons rfl (Imp.cons rfl (Imp.cons rfl (Imp.cons rfl (Imp.cons rfl (Imp.cons rfl (Imp.cons rfl (Imp.cons rfl (Imp.cons rfl (Imp.cons rfl Imp.nil)))))))))))))) (OImp.refl _)
        · refine DO.w rfl ?_
          refine WP.s .n (O.ix 0 rfl rfl Try.underlying45 ty42 rfl (v := (b.getD 0 [])) (gd [] (by omega))) ?_
          refine WP.nil ?_
          refine DO.nx ?_
          refine DA.go 1 [4] (by kernel_rfl) ⟨?_, ⟨?_, trivial⟩⟩
          · refine DO.w rfl ?_
            refine WP.s .n (O.lenS rfl Try.underlying45) ?_
            refine WP.nil ?_
            refine DO.nx ?_
            refine DA.go 4 [6] (by kernel_rfl) ⟨?_, ⟨?_, trivial⟩⟩
            · refine DO.w rfl ?_
              refine WP.s .n (O.ldP rfl ty42) ?_
              refine WP.nil ?_
              refine DO.nx ?_
              refine DA.go 5 [6] (by kernel_rfl) ⟨?_, ⟨?_, trivial⟩⟩
              · refine DO.w rfl ?_
                refine WP.s .n (O.lenS rfl Try.underlying42) ?_
                refine WP.nil ?_
                refine DO.nx ?_
                refine DA.go 6 [] (by kernel_rfl) ⟨?_, trivial⟩
                refine DO.w rfl ?_
                refine WP.s .n (O.asg rfl) ?_
                refine WP.nil ?_
                refine DO.nx ?_
                refine DA.go 7 [] (by kernel_rfl) ⟨?_, trivial⟩
                refine DO.w rfl ?_
                refine WP.s .n (O.asg rfl) ?_
                refine WP.nil ?_
                refine DO.nx ?_
                refine DA.go 8 [] (by kernel_rfl) ⟨?_, trivial⟩
                refine DO.w rfl ?_
                refine WP.s .n (O.asg rfl) ?_
                refine WP.nil ?_
                refine DO.nx ?_
                refine DA.nil (by kernel_rfl) ?_
                exact QE.join (Imp.cons rfl (Imp.cons rfl (Imp.cons rfl (Imp.cons rfl (Imp.cons rfl (Imp.cons rfl (Imp.cons rfl (Imp.cons rfl (Imp.cons rfl (Imp.cons rfl (Imp.cons rfl (Imp.cons rfl (Imp.cons rfl (Imp.cons rfl Imp.nil)))))))))))))) (OImp.refl _)
              · refine DO.w rfl ?_
                refine WP.s .n (O.asg rfl) ?_
                refine WP.nil ?_
                refine DO.nx ?_
                refine DA.go 5 [] (by kernel_rfl) ⟨?_, trivial⟩
                refine DO.w rfl ?_
                refine WP.s .n (O.lenS rfl Try.underlying42) ?_
                refine WP.nil ?_
                refine DO.nx ?_
                refine DA.go 7 [] (by kernel_rfl) ⟨?_, trivial⟩
                refine DO.w rfl ?_
                refine WP.s .n (O.asg rfl) ?_
                refine WP.nil ?_
                refine DO.nx ?_
                refine DA.go 8 [] (by kernel_rfl) ⟨?_, trivial⟩
                refine DO.w rfl ?_
                refine WP.s .n (O.asg rfl) ?_
                refine WP.nil ?_
                refine DO.nx ?_
                refine DA.nil (by kernel_rfl) ?_
                exact QE.join (Imp.cons rfl (Imp.cons rfl (Imp.cons rfl (Imp.cons rfl (Imp.cons rfl (Imp.cons rfl (Imp.cons rfl (Imp.cons rfl (Imp.cons rfl (Imp.cons rfl (Imp.cons rfl (Imp.cons rfl (Imp.cons rfl (Imp.cons rfl Imp.nil)))))))))))))) (OImp.refl _)
            · refine DO.w rfl ?_
              refine WP.s .n (O.asg rfl) ?_
              refine WP.nil ?_
              refine DO.nx ?_
              refine DA.go 4 [] (by kernel_rfl) ⟨?_, trivial⟩
              refine DO.w rfl ?_
              refine WP.s .n (O.ldP rfl ty42) ?_
              refine WP.nil ?_
              refine DO.nx ?_
              refine DA.go 5 [] (by kernel_rfl) ⟨?_, trivial⟩
              refine DO.w rfl ?_
              refine WP.s .n (O.lenS rfl Try.underlying42) ?_
              refine WP.nil ?_
              refine DO.nx ?_
              refine DA.go 7 [] (by kernel_rfl) ⟨?_, trivial⟩
              refine DO.w rfl ?_
              refine WP.s .n (O.asg rfl) ?_
              refine WP.nil ?_
              refine DO.nx ?_
              refine DA.go 8 [] (by kernel_rfl) ⟨?_, trivial⟩
              refine DO.w rfl ?_
              refine WP.s .n (O.asg rfl) ?_
              refine WP.nil ?_
              refine DO.nx ?_
              refine DA.nil (by kernel_rfl) ?_
              exact QE.join (Imp.cons rfl (Imp.cons rfl (Imp.cons rfl (Imp.cons rfl (Imp.cons rfl (Imp.cons rfl (Imp.cons rfl (Imp.cons rfl (Imp.cons rfl (Imp.cons rfl (Imp.cons rfl (Imp.cons rfl (Imp.cons rfl (Imp.cons rfl Imp.nil)))))))))))))) (OImp.refl _)
          · refine DO.w rfl ?_
            refine WP.s .n (O.ldP rfl ty42) ?_
            refine WP.nil ?_
            refine DO.nx ?_
            refine DA.go 1 [5] (by kernel_rfl) ⟨?_, ⟨?_, trivial⟩⟩
            · refine DO.w rfl ?_
              refine WP.s .n (O.lenS rfl Try.underlying45) ?_
              refine WP.nil ?_
              refine DO.nx ?_
              refine DA.go 5 [6] (by kernel_rfl) ⟨?_, ⟨?_, trivial⟩⟩
              · refine DO.w rfl ?_
                refine WP.s .n (O.lenS rfl Try.underlying42) ?_
                refine WP.nil ?_
                refine DO.nx ?_
                refine DA.go 6 [] (by kernel_rfl) ⟨?_, trivial⟩
                refine DO.w rfl ?_
                refine WP.s .n (O.asg rfl) ?_
                refine WP.nil ?_
                refine DO.nx ?_
                refine DA.go 7 [] (by kernel_rfl) ⟨?_, trivial⟩
                refine DO.w rfl ?_
                refine WP.s .n (O.asg rfl) ?_
                refine WP.nil ?_
                refine DO.nx ?_
                refine DA.go 8 [] (by kernel_rfl) ⟨?_, trivial⟩
                refine DO.w rfl ?_
                refine WP.s .n (O.asg rfl) ?_
                refine WP.nil ?_
                refine DO.nx ?_
                refine DA.nil (by kernel_rfl) ?_
                exact QE.join (Imp.cons rfl (Imp.cons rfl (Imp.cons rfl (Imp.cons rfl (Imp.cons rfl (Imp.cons rfl (Imp.cons rfl (Imp.cons rfl (Imp.cons rfl (Imp.cons rfl (Imp.cons rfl (Imp.cons rfl (Imp.cons rfl (Imp.cons rfl Imp.nil)))))))))))))) (OImp.refl _)
              · refine DO.w rfl ?_
                refine WP.s .n (O.asg rfl) ?_
                refine WP.nil ?_
                refine DO.nx ?_
                refine DA.go 5 [] (by kernel_rfl) ⟨?_, trivial⟩
                refine DO.w rfl ?_
                refine WP.s .n (O.lenS rfl Try.underlying42) ?_
                refine WP.nil ?_
                refine DO.nx ?_
                refine DA.go 7 [] (by kernel_rfl) ⟨?_, trivial⟩
                refine DO.w rfl ?_
                refine WP.s .n (O.asg rfl) ?_
                refine WP.nil ?_
                refine DO.nx ?_
                refine DA.go 8 [] (by kernel_rfl) ⟨?_, trivial⟩
                refine DO.w rfl ?_
                refine WP.s .n (O.asg rfl) ?_
                refine WP.nil ?_
                refine DO.nx ?_
                refine DA.nil (by kernel_rfl) ?_
                exact QE.join (Imp.cons rfl (Imp.cons rfl (Imp.cons rfl (Imp.cons rfl (Imp.cons rfl (Imp.cons rfl (Imp.cons rfl (Imp.cons rfl (Imp.cons rfl (Imp.cons rfl (Imp.cons rfl (Imp.cons rfl (Imp.cons rfl (Imp.cons rfl Imp.nil)))))))))))))) (OImp.refl _)
            · refine DO.w rfl ?_
              refine WP.s .n (O.lenS rfl Try.underlying42) ?_
              refine WP.nil ?_
              refine DO.nx ?_
              refine DA.go 1 [] (by kernel_rfl) ⟨?_, trivial⟩
              refine DO.w rfl ?_
              refine WP.s .n (O.lenS rfl Try.underlying45) ?_
              refine WP.nil ?_
              refine DO.nx ?_
              refine DA.go 6 [] (by kernel_rfl) ⟨?_, trivial⟩
              refine DO.w rfl ?_
              refine WP.s .n (O.asg rfl) ?_
              refine WP.nil ?_
              refine DO.nx ?_
              refine DA.go 7 [] (by kernel_rfl) ⟨?_, trivial⟩
              refine DO.w rfl ?_
              refine WP.s .n (O.asg rfl) ?_
              refine WP.nil ?_
              refine DO.nx ?_
              refine DA.go 8 [] (by kernel_rfl) ⟨?_, trivial⟩
              refine DO.w rfl ?_
              refine WP.s .n (O.asg rfl) ?_
              refine WP.nil ?_
              refine DO.nx ?_
              refine DA.nil (by kernel_rfl) ?_
              exact QE.join (Imp.cons rfl (Imp.cons rfl (Imp.cons rfl (Imp.cons rfl (Imp.cons rfl (Imp.cons rfl (Imp.cons rfl (Imp.cons rfl (Imp.cons rfl (Imp.cons rfl (Imp.cons rfl (Imp.cons rfl (Imp.cons rfl (Imp.cons rfl Imp.nil)))))))))))))) (OImp.refl _)
      refine QE.next ?_
      refine CW.ret ?_
      have hx := sh_yes (b := b) (fun j hj => hl j (by omega))
      refine ST.told 2 rfl (is_eq (y := (shN b)) (by rw [hx.1])) ?_
      refine ST.told 3 rfl (is_eq (y := (shM b)) (by rw [hx.2.1])) ?_
      refine ST.told 4 rfl (is_eq (y := (shE b)) (by rw [hx.2.2])) ?_
      exact QE.done (.inl rfl) rfl (ResOk.t rfl (ResOk.t rfl (ResOk.t rfl ResOk.nil))) (OImp.sub (List.nil_sublist _)) ⟨rfl, rfl⟩

set_option maxRecDepth 20000 in
set_option maxHeartbeats 1000000 in
theorem c_mat_Bits (b : List (List Int)) : Fn Try.prog 60 [(kSl (kSl kZ)).is b] ((kInt .i64).is (mbits b)) := by
  refine Con.enter Try.func60 rfl rfl fun m w => ?_
  refine ST.fact (i := 0) rfl sl_len fun hB => ?_
  refine CW.seq ?_
  refine CW.region ?_
  refine WP.s .n (O.asg rfl) ?_
  refine WP.nil ?_
  refine QE.next ?_
  refine CW.seq ?_
  refine CW.region ?_
  refine WP.s .n (O.asg rfl) ?_
  refine WP.nil ?_
  refine QE.next ?_
  refine CW.seq ?_
  refine CW.seq ?_
  refine CW.region ?_
  refine WP.s .n (O.mv rfl) ?_
  refine WP.s .n (O.lenS rfl Try.underlying45) ?_
  refine WP.s .n (O.mv rfl) ?_
  refine WP.nil ?_
  refine QE.next ?_
  refine CW.block ?_
  refine CW.loop (fun (i : Nat) => i ≤ b.length) (fun (i : Nat) => [(0, (kSl (kSl kZ)).is b), (3, (kInt .i64).is ((b.take i).foldl vbN 0)), (8, (kSl (kSl kZ)).is b), (9, (kInt .i64).is (b.length : Int)), (10, (kInt .i64).is (i : Int))]) (fun (i : Nat) => []) (fun (i : Nat) => b.length - i) 0 (by omega) (Imp.cons rfl (Imp.consLe rfl (is_eq (y := ((b.take 0).foldl vbN 0)) (by first | rfl | omega)) (Imp.cons rfl (Imp.cons rfl (Imp.consLe rfl (is_eq (y := (0 : Int)) (by first | rfl | omega)) Imp.nil))))) (OImp.refl _) ?_
  intro i hi
  refine CW.seq ?_
  refine CW.region ?_
  refine WP.s .n (O.lt rfl rfl) ?_
  refine WP.nil ?_
  refine QE.next ?_
  refine CW.seq ?_
  refine CW.condD rfl (fun h_t11 => ?_) (fun h_t11 => ?_)
  · refine CW.skip ?_
    refine QE.next ?_
    refine CW.seq ?_
    refine CW.block ?_
    refine CW.seq ?_
    refine CW.region ?_
    refine WP.s .n (O.ix i rfl rfl Try.underlying45 ty42 rfl (v := (b.getD i [])) (gd [] (by omega))) ?_
    refine WP.s .n (O.ldP rfl ty42) ?_
    refine WP.s .n (O.asg rfl) ?_
    refine WP.nil ?_
    refine QE.next ?_
    refine CW.seq ?_
    refine CW.region ?_
    refine ST.fact (i := 5) rfl sl_len fun hlk => ?_
    refine WP.s .n (O.mv rfl) ?_
    refine WP.s .n (O.lenS rfl Try.underlying42) ?_
    refine WP.s .n (O.mv rfl) ?_
    refine WP.nil ?_
    refine QE.next ?_
    refine CW.block ?_
    refine CW.loop (fun (k : Nat) => k ≤ (b.getD i []).length) (fun (k : Nat) => [(0, (kSl (kSl kZ)).is b), (3, (kInt .i64).is (vbN ((b.take i).foldl vbN 0) ((b.getD i []).take k))), (8, (kSl (kSl kZ)).is b), (9, (kInt .i64).is (b.length : Int)), (10, (kInt .i64).is (i : Int)), (14, (kSl kZ).is (b.getD i [])), (15, (kInt .i64).is ((b.getD i []).length : Int)), (16, (kInt .i64).is (k : Int))]) (fun (k : Nat) => []) (fun (k : Nat) => (b.getD i []).length - k) 0 (by omega) (Imp.cons rfl (Imp.consLe rfl (is_eq (y := (vbN ((b.take i).foldl vbN 0) ((b.getD i []).take 0))) (by first | rfl | omega)) (Imp.cons rfl (Imp.cons rfl (Imp.cons rfl (Imp.cons rfl (Imp.cons rfl (Imp.consLe rfl (is_eq (y := (0 : Int)) (by first | rfl | omega)) Imp.nil)))))))) (OImp.refl _) ?_
    intro k hk
    refine CW.seq ?_
    refine CW.region ?_
    refine WP.s .n (O.lt rfl rfl) ?_
    refine WP.nil ?_
    refine QE.next ?_
    refine CW.seq ?_
    refine CW.condD rfl (fun h_t17 => ?_) (fun h_t17 => ?_)
    · refine CW.skip ?_
      refine QE.next ?_
      refine CW.seq ?_
      refine CW.block ?_
      refine CW.seq ?_
      refine CW.region ?_
      refine WP.s .n (O.ix k rfl rfl Try.underlying42 ty24 rfl (v := ((b.getD i []).getD k 0)) (gd 0 (by omega))) ?_
      refine WP.s .n (O.ldP rfl ty24) ?_
      refine WP.al .n z24_C fun b1 => ?_
      refine WP.t .n (O.stW (l := kZ) (u := ((b.getD i []).getD k 0)) 0 rfl rfl rfl ty24 rfl (VP.le_refl _)) ?_
      refine WP.nil ?_
      refine QE.next ?_
      refine CW.region ?_
      refine WP.s .n (O.mv rfl) ?_
      refine WP.s .n (O.ld rfl (mem_at 0 rfl) (Lens.id _) ty24 rfl) ?_
      refine WP.s .n (O.fn fn76 (evs.c rfl evs.nil) (c_zint_Bits ((b.getD i []).getD k 0))) ?_
      refine WP.s .n (O.mx rfl rfl) ?_
      refine WP.s .n (O.asg rfl) ?_
      refine WP.nil ?_
      refine QE.blkN ?_
      refine QE.next ?_
      refine CW.region ?_
      refine WP.s .n (O.add rfl rfl (c := ((k : Int) + 1)) (w64 (by omega))) ?_
      refine WP.s .n (O.mv rfl) ?_
      refine WP.nil ?_
      refine ST.told 3 rfl (is_eq (y := (vbN ((b.take i).foldl vbN 0) ((b.getD i []).take (k + 1)))) (vbN_s (by omega))) ?_
      exact QE.round (k + 1) (by omega) (by omega) (Imp.cons rfl (Imp.cons rfl (Imp.cons rfl (Imp.cons rfl (Imp.cons rfl (Imp.cons rfl (Imp.cons rfl (Imp.consLe rfl (is_eq (y := (((k + 1) : Nat) : Int)) (by first | rfl | omega)) Imp.nil)))))))) (OImp.sub (List.nil_sublist _))
    · refine CW.exit ?_
      refine QE.thenE ?_
      refine QE.thenE ?_
      refine QE.blkH ?_
      refine QE.blkN ?_
      refine QE.next ?_
      refine CW.region ?_
      refine WP.s .n (O.add rfl rfl (c := ((i : Int) + 1)) (w64 (by omega))) ?_
      refine WP.s .n (O.mv rfl) ?_
      refine WP.nil ?_
      refine ST.told 3 rfl (is_eq (y := ((b.take (i + 1)).foldl vbN 0)) (mb_done (by omega) (by omega))) ?_
      exact QE.round (i + 1) (by omega) (by omega) (Imp.cons rfl (Imp.cons rfl (Imp.cons rfl (Imp.cons rfl (Imp.consLe rfl (is_eq (y := (((i + 1) : Nat) : Int)) (by first | rfl | omega)) Imp.nil))))) (OImp.refl _)
  · refine CW.exit ?_
    refine QE.thenE ?_
    refine QE.thenE ?_
    refine QE.blkH ?_
    refine QE.next ?_
    refine CW.seq ?_
    refine CW.region ?_
    refine WP.s .n (O.mv rfl) ?_
    refine WP.s .n (O.asg rfl) ?_
    refine WP.nil ?_
    refine QE.next ?_
    refine CW.ret ?_
    refine ST.told 2 rfl (is_eq (y := (mbits b)) (by rw [List.take_of_length_le (by omega)]; rfl)) ?_
    exact QE.done (.inl rfl) rfl (ResOk.t rfl ResOk.nil) (OImp.sub (List.nil_sublist _)) ⟨rfl, rfl⟩

end Fw


/- Plain facts: the whole data of Gram-Schmidt and the fractions: one is the other's numerator; sizes. -/
set_option linter.unusedVariables false
set_option linter.unusedSimpArgs false
set_option exponentiation.threshold 400
namespace Fw
open Go

/-- bits behind k steps -/
def szU (n : Nat) : Nat → Nat
  | 0 => n
  | k + 1 => 2 * szU n k + 1
theorem uE_Sz {G : Nat → Nat → Int} (hs : SymG G) {n : Nat} (hn : ∀ i j, Sz n (G i j)) {K : Nat} (hp : PosU G K) : ∀ k, k ≤ K → ∀ i j, k ≤ i → k ≤ j → Sz (szU n k) (uE G k i j)
  | 0, _, i, j, _, _ => hn i j
  | k + 1, hk, i, j, hi, hj => by
    have ih := uE_Sz hs hn hp k (by omega)
    have hx := (ugs hs K hp).x k (by omega) i j (by omega) (by omega) (by omega) (by omega)
    have hd : 0 < uD G k := hp.uD (by omega)
    have h1 := Sz.add1 (((ih k k (Nat.le_refl _) (Nat.le_refl _)).mul (ih i j (by omega) (by omega)))) ((((ih i k (by omega) (Nat.le_refl _)).mul (ih j k (by omega) (Nat.le_refl _)))).neg)
    have e : uE G k k k * uE G k i j + -(uE G k i k * uE G k j k) = uE G (k + 1) i j * uD G k := by
      rw [hx]; show _ = uE G k k k * uE G k i j - _; omega
    rw [e] at h1
    have h2 := h1.le (y := uE G (k + 1) i j) (by
      rw [Int.natAbs_mul]; exact Nat.le_mul_of_pos_right _ (by omega))
    exact h2.up (by simp only [szU]; omega)

end Fw


/- Plain facts: the sum of rows, each so many times. -/
set_option linter.unusedVariables false
set_option linter.unusedSimpArgs false
set_option exponentiation.threshold 400
namespace Fw
open Go

/-- column k of the first i rows' sum -/
def combN (x : List Int) (b : List (List Int)) (k : Nat) : Nat → Int
  | 0 => 0
  | i + 1 => combN x b k i + x.getD i 0 * (b.getD i []).getD k 0
theorem combN_Sz {n m x b} (hx : SzL n x) (hb : ∀ i, SzL m (b.getD i [])) (k) : ∀ i, Sz (n + m + i) (combN x b k i)
  | 0 => Sz.zero _
  | i + 1 => Sz.add1 (combN_Sz hx hb k i) (((hx i).mul (hb i k)).up (show n + m ≤ n + m + i by omega))
/-- row i is added as far as column k0 -/
def combP (x : List Int) (b : List (List Int)) (i k0 : Nat) : List Int := (List.range (b.getD 0 []).length).map (fun k => combN x b k (if k < k0 then i + 1 else i))
def combV (x : List Int) (b : List (List Int)) : List Int := (List.range (b.getD 0 []).length).map (fun k => combN x b k b.length)
theorem combP_len (x b i k0) : (combP x b i k0).length = (b.getD 0 []).length := by simp [combP]
theorem combP_get {x b i k0} (h : k0 < (b.getD 0 []).length) : (combP x b i k0).getD k0 0 = combN x b k0 i := by
  rw [gde _ 0 (by rw [combP_len]; exact h)]; simp [combP]
theorem combP_set {x b i k0} (h : k0 < (b.getD 0 []).length) : (combP x b i k0).set k0 (combN x b k0 i + x.getD i 0 * (b.getD i []).getD k0 0) = combP x b i (k0 + 1) := by
  apply List.ext_getElem
  · simp [combP]
  · intro k h1 h2
    simp only [List.getElem_set, combP, List.getElem_map, List.getElem_range]
    by_cases e : k0 = k
    · subst e; rw [if_pos rfl, if_pos (by omega)]; rfl
    · rw [if_neg e]
      by_cases e2 : k < k0
      · rw [if_pos e2, if_pos (by omega)]
      · rw [if_neg e2, if_neg (by omega)]
theorem combP_row {x b i k0} (h : (b.getD 0 []).length ≤ k0) : combP x b i k0 = combP x b (i + 1) 0 := by
  apply List.map_congr_left
  intro k hk
  have := List.mem_range.1 hk
  rw [if_pos (by omega), if_neg (by omega)]
theorem combP_zero (x b) : combP x b 0 0 = List.replicate (b.getD 0 []).length 0 := by
  apply List.ext_getElem
  · simp [combP]
  · intro k h1 h2; simp [combP, combN]
theorem combP_end (x) (b : List (List Int)) : combP x b b.length 0 = combV x b := by
  apply List.map_congr_left
  intro k hk; rw [if_neg (by omega)]

end Fw


/- Plain facts: combinations of rows, and Gram-Schmidt data as lists. -/
set_option linter.unusedVariables false
set_option linter.unusedSimpArgs false
set_option exponentiation.threshold 400
namespace Fw
open Go

theorem slsl_len {α : Type} {k : Kd α} {b : List (List α)} (m : Mem) (v : Value) (h : ((kSl (kSl k)).is b).p m v) : ∀ i, (b.getD i []).length ≤ 1099511627776 := by
  intro i
  obtain ⟨a, cap, rfl, h1, h2, h3⟩ := Kd.is_sl h
  by_cases hi : i < b.length
  · rcases h3 with rfl | ⟨g, o, c, cells, rfl, e1, e2, e3⟩
    · simp at hi
    · have := e3.get i hi
      obtain ⟨a', cap', _, h4, _⟩ := this
      rw [gde _ [] hi]; exact h4
  · have e : b.getD i [] = [] := by simp [List.getD, Nat.le_of_not_lt hi]
    rw [e]; simp

def RectL (b : List (List Int)) : Prop := ∀ i, i < b.length → (b.getD i []).length = (b.getD 0 []).length
def SzM (n : Nat) (b : List (List Int)) : Prop := ∀ i, SzL n (b.getD i [])
theorem combV_len (x b) : (combV x b).length = (b.getD 0 []).length := by simp [combV]
theorem combV_get {x b k} (h : k < (b.getD 0 []).length) : (combV x b).getD k 0 = combN x b k b.length := by
  rw [gde _ 0 (by rw [combV_len]; exact h)]; simp [combV]
theorem combP_at {x b i k} (h : k < (b.getD 0 []).length) : (combP x b i k)[k]? = some (combN x b k i) := by
  rw [gd (l := combP x b i k) (i := k) 0 (by rw [combP_len]; exact h), combP_get h]
theorem combV_nil (x) {b : List (List Int)} (h : b.length = 0) : combV x b = [] := by
  have := List.eq_nil_of_length_eq_zero h; subst this; rfl
def combOk (x : List Int) (b : List (List Int)) : Prop := rect b = true ∧ x.length = b.length
instance (x b) : Decidable (combOk x b) := by unfold combOk; infer_instance
def combA (x : List Int) (b : List (List Int)) : List Int := if combOk x b then combV x b else []
def combE (x : List Int) (b : List (List Int)) : Int := if combOk x b then 0 else 8
theorem comb_yes {x b} (h : combOk x b) : combV x b = combA x b ∧ combE x b = 0 := ⟨(if_pos h).symm, if_pos h⟩
theorem comb_no {x b} (h : ¬ combOk x b) : combA x b = [] ∧ combE x b = 8 := ⟨if_neg h, if_neg h⟩
theorem rectL {b} (h : rect b = true) : RectL b := rect_iff.1 h
theorem rect_of_shE {b} (h : ¬ shE b ≠ 0) : rect b = true := by
  unfold shE at h
  by_cases e : rect b = true
  · exact e
  · rw [if_neg e] at h; exact absurd (by decide) h
theorem not_rect_of_shE {b} (h : shE b ≠ 0) : ¬ rect b = true := by
  intro e; unfold shE at h; rw [if_pos e] at h; exact h rfl

/-! Gram-Schmidt data as the program keeps them. -/
def gOk (G : Nat → Nat → Int) (n : Nat) : Bool := (List.range n).all (fun i => decide (0 < uE G i i i))
def gDs (G : Nat → Nat → Int) (n : Nat) : List Int := (List.range (n + 1)).map (uD G)
def gRow (G : Nat → Nat → Int) (i m : Nat) : List Int := (List.range m).map (fun j => uE G j i j)
def gLs (G : Nat → Nat → Int) (n : Nat) : List (List Int) := (List.range n).map (fun i => gRow G i i)
theorem gOk_iff {G n} : gOk G n = true ↔ PosU G n := by
  unfold gOk PosU; simp
theorem gRow_len (G i m) : (gRow G i m).length = m := by simp [gRow]
theorem gRow_get {G i m j} (h : j < m) : (gRow G i m).getD j 0 = uE G j i j := by
  rw [gde _ 0 (by rw [gRow_len]; exact h)]; simp [gRow]
theorem gRow_app (G i m) : gRow G i m ++ [uE G m i m] = gRow G i (m + 1) := by
  simp [gRow, List.range_succ]
theorem gRow_take (G i m) : (gRow G i (m + 1)).take m = gRow G i m := by
  rw [← gRow_app, List.take_left' (gRow_len G i m)]
theorem gDs_len (G n) : (gDs G n).length = n + 1 := by simp [gDs]
theorem gDs_get {G n k} (h : k ≤ n) : (gDs G n).getD k 0 = uD G k := by
  rw [gde _ 0 (by rw [gDs_len]; omega)]; simp [gDs]
theorem gDs_app (G n) : gDs G n ++ [uE G n n n] = gDs G (n + 1) := by
  simp [gDs, List.range_succ]; rfl
theorem gLs_len (G n) : (gLs G n).length = n := by simp [gLs]
theorem gLs_get {G n k} (h : k < n) : (gLs G n).getD k [] = gRow G k k := by
  rw [gde _ [] (by rw [gLs_len]; omega)]; simp [gLs]
theorem gLs_app (G n) : gLs G n ++ [gRow G n n] = gLs G (n + 1) := by
  simp [gLs, List.range_succ]
theorem szU_eq (n) : ∀ k, szU n k + 1 = 2 ^ k * (n + 1)
  | 0 => by simp [szU]
  | k + 1 => by rw [szU, Nat.pow_succ, Nat.mul_comm (2 ^ k) 2, Nat.mul_assoc, ← szU_eq n k]; omega
theorem szU_le (n) {k : Nat} (h : k ≤ 12) : szU n k ≤ 4096 * (n + 1) := by
  have h1 := szU_eq n k
  have h2 : 2 ^ k ≤ 2 ^ 12 := Nat.pow_le_pow_right (by decide) h
  have h3 := Nat.mul_le_mul_right (n + 1) h2
  omega
theorem gDs_at {G n k} (h : k ≤ n) : (gDs G n)[k]? = some (uD G k) := by
  have := gDs_get (G := G) h; rw [gd (l := gDs G n) (i := k) 0 (by rw [gDs_len]; omega), this]
theorem gRow_at {G i m j} (h : j < m) : (gRow G i m)[j]? = some (uE G j i j) := by
  have := gRow_get (G := G) (i := i) h; rw [gd (l := gRow G i m) (i := j) 0 (by rw [gRow_len]; omega), this]
theorem gLs_at {G n i k} (hi : i < n) (h : k < i) : ((gLs G n).getD i [])[k]? = some (uE G k i k) := by
  rw [gLs_get hi]; exact gRow_at h
/-- what built answers -/
def gsoV (G : Nat → Nat → Int) (n : Nat) : List Int × List (List Int) := if gOk G n = true then (gDs G n, gLs G n) else ([], [])
theorem gso_yes {G n} (h : PosU G n) : gOk G n = true ∧ gsoV G n = (gDs G n, gLs G n) := ⟨gOk_iff.2 h, if_pos (gOk_iff.2 h)⟩
theorem gso_no {G n i} (hi : i < n) (h : (uE G i i i).sign ≤ 0) : gOk G n = false ∧ gsoV G n = ([], []) := by
  have e : ¬ gOk G n = true := fun e => by
    have h1 := gOk_iff.1 e i hi
    have := Int.sign_eq_one_of_pos h1
    omega
  exact ⟨by simpa using e, if_neg e⟩
theorem posU_succ {G i} (h : PosU G i) (hs : ¬ (uE G i i i).sign ≤ 0) : PosU G (i + 1) := by
  intro l hl
  by_cases e : l = i
  · subst e
    rcases Int.lt_trichotomy (uE G l l l) 0 with h1 | h1 | h1
    · rw [Int.sign_eq_neg_one_of_neg h1] at hs; omega
    · rw [h1] at hs; simp at hs
    · exact h1
  · exact h l (by omega)

theorem uD_Sz {G : Nat → Nat → Int} (hs : SymG G) {n : Nat} (hn : ∀ i j, Sz n (G i j)) {K : Nat} (hp : PosU G K) : ∀ k, k ≤ K → Sz (szU n k + 1) (uD G k)
  | 0, _ => by
    show (1 : Int).natAbs < 2 ^ (n + 1)
    have := Nat.one_le_two_pow (n := n)
    rw [Nat.pow_succ]; simp; omega
  | k + 1, hk => (uE_Sz hs hn hp k (by omega) k k (Nat.le_refl _) (Nat.le_refl _)).up (by simp only [szU]; omega)

end Fw


/- Combinations of rows: what the functions answer. -/
set_option linter.unusedVariables false
set_option linter.unusedSimpArgs false
set_option exponentiation.threshold 400
namespace Fw
open Go Go.Proofs

set_option maxRecDepth 20000 in
set_option maxHeartbeats 1000000 in
theorem c_mat_combine (n : Nat) (x : List Int) (b : List (List Int)) (hx : SzL n x) (hb : SzM n b) (hr : RectL b) (hl : b.length ≤ x.length) (hn : n + n + b.length ≤ 549755813000) : Fn Try.prog 62 [(kSl kZ).is x, (kSl (kSl kZ)).is b] ((kSl kC).is (combV x b)) := by
  refine Con.enter Try.func62 rfl rfl fun m w => ?_
  refine ST.fact (i := 0) rfl sl_len fun hA => ?_
  refine ST.fact (i := 1) rfl sl_len fun hB => ?_
  refine CW.seq ?_
  refine CW.region ?_
  refine WP.s .n (O.asg rfl) ?_
  refine WP.nil ?_
  refine QE.next ?_
  refine CW.seq ?_
  refine CW.seq ?_
  refine CW.region ?_
  refine WP.s .n (O.mv rfl) ?_
  refine WP.s .n (O.lenS rfl Try.underlying45) ?_
  refine WP.s .n (O.eq rfl rfl) ?_
  refine WP.nil ?_
  refine QE.next ?_
  refine CW.condD rfl (fun h_t12 => ?_) (fun h_t12 => ?_)
  · refine CW.seq ?_
    refine ST.told (q := (kSl kC).is (combV x b)) 4 rfl (VP.le_trans (nil_le _) (is_eq (combV_nil x (by omega)).symm)) ?_
    refine CW.region ?_
    refine WP.s .n (O.asg rfl) ?_
    refine WP.nil ?_
    refine QE.next ?_
    refine CW.ret ?_
    refine QE.thenR ?_
    refine ST.told (q := (kSl kC).is (combV x b)) 4 rfl (VP.le_trans (nil_le _) (is_eq (combV_nil x (by omega)).symm)) ?_
    exact QE.done (.inl rfl) rfl (ResOk.t rfl ResOk.nil) (OImp.sub (List.nil_sublist _)) ⟨rfl, rfl⟩
  · refine CW.skip ?_
    refine QE.next ?_
    refine CW.seq ?_
    refine CW.region ?_
    refine WP.s .n (O.mv rfl) ?_
    refine WP.s .n (O.ix 0 rfl rfl Try.underlying45 ty42 rfl (v := (b.getD 0 [])) (gd [] (by (first | omega | (simp only [combP_len]; have := hr i (by omega); omega))))) ?_
    refine WP.s .n (O.ldP rfl ty42) ?_
    refine ST.fact (i := 15) rfl sl_len fun hlr => ?_
    refine WP.s .n (O.lenS rfl Try.underlying42) ?_
    refine WP.mk ((b.getD 0 []).length) .n rfl rfl rfl (by (first | omega | (simp only [combP_len]; have := hr i (by omega); omega))) Try.underlying42 el24_C z24_C fun v1 => ?_
    refine WP.s .n (O.asg rfl) ?_
    refine WP.nil ?_
    refine QE.next ?_
    refine CW.seq ?_
    refine CW.seq ?_
    refine CW.region ?_
    refine WP.s .n (O.mv rfl) ?_
    refine WP.s .n (O.lenS rfl Try.underlying45) ?_
    refine WP.s .n (O.mv rfl) ?_
    refine WP.nil ?_
    refine QE.next ?_
    refine CW.block ?_
    refine ST.obtold 0 rfl (OB.row_eq (ys := (combP x b 0 0)) (combP_zero x b).symm) ?_
    refine CW.loop (fun (i : Nat) => i ≤ b.length) (fun (i : Nat) => [(0, (kSl kZ).is x), (1, (kSl (kSl kZ)).is b), (5, VP.ex v1), (18, (kSl (kSl kZ)).is b), (19, (kInt .i64).is (b.length : Int)), (20, (kInt .i64).is (i : Int))]) (fun (i : Nat) => [OB.row v1 24 kC (combP x b i 0)]) (fun (i : Nat) => b.length - i) 0 (by omega) (Imp.cons rfl (Imp.cons rfl (Imp.cons rfl (Imp.cons rfl (Imp.cons rfl (Imp.consLe rfl (is_eq (y := (0 : Int)) (by first | rfl | omega | assumption)) Imp.nil)))))) (OImp.refl _) ?_
    intro i hi
    refine CW.seq ?_
    refine CW.region ?_
    refine WP.s .n (O.lt rfl rfl) ?_
    refine WP.nil ?_
    refine QE.next ?_
    refine CW.seq ?_
    refine CW.condD rfl (fun h_t21 => ?_) (fun h_t21 => ?_)
    · refine CW.skip ?_
      refine QE.next ?_
      refine CW.seq ?_
      refine CW.block ?_
      refine CW.seq ?_
      refine CW.region ?_
      refine WP.s .n (O.mv rfl) ?_
      refine WP.s .n (O.ix i rfl rfl Try.underlying45 ty42 rfl (v := (b.getD i [])) (gd [] (by (first | omega | (simp only [combP_len]; have := hr i (by omega); omega))))) ?_
      refine WP.s .n (O.ldP rfl ty42) ?_
      refine WP.s .n (O.asg rfl) ?_
      refine WP.s .n (O.asg rfl) ?_
      refine WP.nil ?_
      refine QE.next ?_
      refine CW.seq ?_
      refine CW.region ?_
      refine ST.fact (i := 7) rfl sl_len fun hlk => ?_
      refine WP.s .n (O.mv rfl) ?_
      refine WP.s .n (O.lenS rfl Try.underlying42) ?_
      refine WP.s .n (O.mv rfl) ?_
      refine WP.nil ?_
      refine QE.next ?_
      refine CW.block ?_
      refine CW.loop (fun (k : Nat) => k ≤ (b.getD i []).length) (fun (k : Nat) => [(0, (kSl kZ).is x), (1, (kSl (kSl kZ)).is b), (5, VP.ex v1), (6, (kInt .i64).is (i : Int)), (7, (kSl kZ).is (b.getD i [])), (18, (kSl (kSl kZ)).is b), (19, (kInt .i64).is (b.length : Int)), (20, (kInt .i64).is (i : Int)), (25, (kSl kZ).is (b.getD i [])), (26, (kInt .i64).is ((b.getD i []).length : Int)), (27, (kInt .i64).is (k : Int))]) (fun (k : Nat) => [OB.row v1 24 kC (combP x b i k)]) (fun (k : Nat) => (b.getD i []).length - k) 0 (by omega) (Imp.cons rfl (Imp.cons rfl (Imp.cons rfl (Imp.cons rfl (Imp.cons rfl (Imp.cons rfl (Imp.cons rfl (Imp.cons rfl (Imp.cons rfl (Imp.cons rfl (Imp.consLe rfl (is_eq (y := (0 : Int)) (by first | rfl | omega | assumption)) Imp.nil))))))))))) (OImp.refl _) ?_
      intro k hk
      refine CW.seq ?_
      refine CW.region ?_
      refine WP.s .n (O.lt rfl rfl) ?_
      refine WP.nil ?_
      refine QE.next ?_
      refine CW.seq ?_
      refine CW.condD rfl (fun h_t28 => ?_) (fun h_t28 => ?_)
      · refine CW.skip ?_
        refine QE.next ?_
        refine CW.seq ?_
        refine CW.block ?_
        refine CW.seq ?_
        refine CW.region ?_
        refine WP.s .n (O.mv rfl) ?_
        refine WP.s .n (O.ix k rfl rfl Try.underlying42 ty24 rfl (v := ((b.getD i []).getD k 0)) (gd 0 (by (first | omega | (simp only [combP_len]; have := hr i (by omega); omega))))) ?_
        refine WP.s .n (O.ldP rfl ty24) ?_
        refine WP.al .n z24_C fun b2 => ?_
        refine WP.s .n (O.asg rfl) ?_
        refine WP.t .n (O.stW (l := kZ) (u := ((b.getD i []).getD k 0)) 0 rfl rfl rfl ty24 rfl (VP.le_refl _)) ?_
        refine WP.nil ?_
        refine QE.next ?_
        refine CW.draw (Γ := [.fr (VP.ex v1), .fr ((kInt .i64).is (k : Int)), .fr (VP.ex v1), .fr ((kInt .i64).is (k : Int)), .fr (VP.pel v1 (k * 2)), .fr (kC.is (combN x b k i)), .fr ((kSl kZ).is x), .fr ((kInt .i64).is (i : Int)), .fr (VP.pim kZ (x.getD i 0)), .fr (kZ.is (x.getD i 0)), .fr (kZ.is ((b.getD i []).getD k 0)), .fr (kC.is ((x.getD i 0) * ((b.getD i []).getD k 0))), .fr (kC.is ((combN x b k i) + ((x.getD i 0) * ((b.getD i []).getD k 0)))), .fr (VP.pel v1 (k * 2))]) (lates := [false, false, false, false, false, false, false, false, false, false, false, false, false, false]) (by kernel_rfl) (Chk.of rfl (by kernel_rfl) rfl) (fun _ _ _ _ _ h => h) (fun q_ x_ h_ => ?_) (fun σ1 => ?_)
        · match q_, h_ with
          | 0, h_ => cases h_; exact Ob.f rfl .n fun N => (O.mv rfl)
          | 1, h_ => cases h_; exact Ob.f rfl .n fun N => (O.mv rfl)
          | 2, h_ => cases h_; exact Ob.f rfl .n fun N => (O.mv rfl)
          | 3, h_ => cases h_; exact Ob.f rfl .n fun N => (O.mv rfl)
          | 4, h_ => cases h_; exact Ob.f rfl .n fun N => (O.ixR (k := kC) (xs := (combP x b i k)) (n := (k : Int)) k rfl rfl (mem_app N (mem_at 1 rfl)) Try.underlying42 ty24 rfl (by (first | omega | (simp only [combP_len]; have := hr i (by omega); omega))))
          | 5, h_ => cases h_; exact Ob.f rfl .n fun N => (O.ldR (k := kC) (xs := (combP x b i k)) k rfl (mem_app N (mem_at 1 rfl)) (Lens.id _) (ho := rfl) (y := (combN x b k i)) (combP_at (by have := hr i (by omega); omega)) ty24 rfl)
          | 6, h_ => cases h_; exact Ob.f rfl .n fun N => (O.mv rfl)
          | 7, h_ => cases h_; exact Ob.f rfl .n fun N => (O.mv rfl)
          | 8, h_ => cases h_; exact Ob.f rfl .n fun N => (O.ix i rfl rfl Try.underlying42 ty24 rfl (v := (x.getD i 0)) (gd 0 (by (first | omega | (simp only [combP_len]; have := hr i (by omega); omega)))))
          | 9, h_ => cases h_; exact Ob.f rfl .n fun N => (O.ldP rfl ty24)
          | 10, h_ => cases h_; exact Ob.f rfl .n fun N => (O.ld rfl (mem_app N (mem_at 0 rfl)) (Lens.id _) ty24 rfl)
          | 11, h_ => cases h_; exact Ob.f rfl .n fun N => (O.fn fn20 (evs.c rfl (evs.c rfl evs.nil)) (c_zint_Mul (x.getD i 0) ((b.getD i []).getD k 0)))
          | 12, h_ => cases h_; exact Ob.f rfl .n fun N => (O.fn fn32 (evs.l rfl (kC_Z (by first | exact (hx i).sm (by omega) | exact (hb i k).sm (by omega) | exact (combN_Sz hx hb k i).sm (by omega) | exact ((hx i).mul (hb i k)).sm (by omega))) (evs.l rfl (kC_Z (by first | exact (hx i).sm (by omega) | exact (hb i k).sm (by omega) | exact (combN_Sz hx hb k i).sm (by omega) | exact ((hx i).mul (hb i k)).sm (by omega))) evs.nil)) (c_zint_Add (combN x b k i) ((x.getD i 0) * ((b.getD i []).getD k 0))))
          | 13, h_ => cases h_; exact Ob.f rfl .n fun N => (O.ixR (k := kC) (xs := (combP x b i k)) (n := (k : Int)) k rfl rfl (mem_app N (mem_at 1 rfl)) Try.underlying42 ty24 rfl (by (first | omega | (simp only [combP_len]; have := hr i (by omega); omega))))
          | n_ + 14, h_ => simp at h_
        refine WP.t .n (O.stR 1 k rfl rfl (Lens.id _) rfl (y0 := ((combP x b i k).getD k 0)) (gd 0 (by (first | omega | (simp only [combP_len]; have := hr i (by omega); omega)))) ty24 rfl (VP.le_refl _)) ?_
        refine WP.nil ?_
        refine QE.blkN ?_
        refine QE.next ?_
        refine CW.region ?_
        refine WP.s .n (O.add rfl rfl (c := ((k : Int) + 1)) (w64 (by omega))) ?_
        refine WP.s .n (O.mv rfl) ?_
        refine WP.nil ?_
        refine ST.obtold 1 rfl (OB.row_eq (ys := (combP x b i (k + 1))) (combP_set (by have := hr i (by omega); omega))) ?_
        exact QE.round (k + 1) (by omega) (by omega) (Imp.cons rfl (Imp.cons rfl (Imp.cons rfl (Imp.cons rfl (Imp.cons rfl (Imp.cons rfl (Imp.cons rfl (Imp.cons rfl (Imp.cons rfl (Imp.cons rfl (Imp.consLe rfl (is_eq (y := (((k + 1) : Nat) : Int)) (by first | rfl | omega | assumption)) Imp.nil))))))))))) (OImp.os (OS.skip (OS.keep OS.nil)))
      · refine CW.exit ?_
        refine QE.thenE ?_
        refine QE.thenE ?_
        refine QE.blkH ?_
        refine QE.blkN ?_
        refine QE.next ?_
        refine CW.region ?_
        refine WP.s .n (O.add rfl rfl (c := ((i : Int) + 1)) (w64 (by omega))) ?_
        refine WP.s .n (O.mv rfl) ?_
        refine WP.nil ?_
        refine ST.obtold 0 rfl (OB.row_eq (ys := (combP x b (i + 1) 0)) (combP_row (by have := hr i (by omega); omega))) ?_
        exact QE.round (i + 1) (by omega) (by omega) (Imp.cons rfl (Imp.cons rfl (Imp.cons rfl (Imp.cons rfl (Imp.cons rfl (Imp.consLe rfl (is_eq (y := (((i + 1) : Nat) : Int)) (by first | rfl | omega | assumption)) Imp.nil)))))) (OImp.refl _)
    · refine CW.exit ?_
      refine QE.thenE ?_
      refine QE.thenE ?_
      refine QE.blkH ?_
      refine QE.next ?_
      refine CW.seq ?_
      refine CW.region ?_
      refine WP.s .n (O.mv rfl) ?_
      refine WP.s .n (O.asg rfl) ?_
      refine WP.nil ?_
      refine QE.next ?_
      refine CW.ret ?_
      refine ST.freeze 0 rfl (.keep (i := 0) rfl (.keep (i := 1) rfl (.hit (i := 4) rfl (.hit (i := 5) rfl (.keep (i := 18) rfl (.keep (i := 19) rfl (.keep (i := 20) rfl (.keep (i := 21) rfl (.hit (i := 48) rfl .nil))))))))) ?_
      refine ST.told 4 rfl (is_eq (y := (combV x b)) (by rw [show i = b.length by omega, combP_end])) ?_
      exact QE.done (.inl rfl) rfl (ResOk.t rfl ResOk.nil) (OImp.sub (List.nil_sublist _)) ⟨rfl, rfl⟩

set_option maxRecDepth 20000 in
set_option maxHeartbeats 1000000 in
theorem c_mat_Combine (n : Nat) (x : List Int) (b : List (List Int)) (hx : SzL n x) (hb : SzM n b) (hn : n + n + b.length ≤ 549755813000) : Fn Try.prog 44 [(kSl kZ).is x, (kSl (kSl kZ)).is b] (VP.tup [(kSl kC).is (combA x b), (kInt .i64).is (combE x b)]) := by
  refine Con.enter Try.func44 rfl rfl fun m w => ?_
  refine ST.fact (i := 0) rfl sl_len fun hA => ?_
  refine ST.fact (i := 1) rfl sl_len fun hB => ?_
  refine CW.seq ?_
  refine CW.region ?_
  refine WP.s .n (O.asg rfl) ?_
  refine WP.s .n (O.asg rfl) ?_
  refine WP.nil ?_
  refine QE.next ?_
  refine CW.seq ?_
  refine CW.region ?_
  refine WP.s .n (O.mv rfl) ?_
  refine WP.s .n (O.fn fn61 (evs.c rfl evs.nil) (c_mat_Shape b)) ?_
  refine WP.s .n (O.mv rfl) ?_
  refine WP.s .n (O.ext rfl rfl) ?_
  refine WP.s .n (O.ext rfl rfl) ?_
  refine WP.s .n (O.ext rfl rfl) ?_
  refine WP.s .n (O.asg rfl) ?_
  refine WP.s .n (O.asg rfl) ?_
  refine WP.s .n (O.asg rfl) ?_
  refine WP.nil ?_
  refine QE.next ?_
  refine CW.seq ?_
  refine CW.seq ?_
  refine CW.region ?_
  refine WP.s .n (O.mv rfl) ?_
  refine WP.s .n (O.ne rfl rfl) ?_
  refine WP.s .n (O.mv rfl) ?_
  refine WP.splitD 17 rfl (fun h_t17 => ?_) (fun h_t17 => ?_)
  · have hno : ¬ combOk x b := fun h => not_rect_of_shE h_t17 h.1
    refine WP.ku (b := true) rfl rfl ?_
    refine WP.ku (b := true) rfl rfl ?_
    refine WP.ku (b := true) rfl rfl ?_
    refine WP.ku (b := true) rfl rfl ?_
    refine WP.s .n (O.pickT rfl rfl) ?_
    refine WP.nil ?_
    refine QE.next ?_
    refine CW.condT rfl ?_
    refine CW.seq ?_
    refine CW.region ?_
    refine WP.s .n (O.asg rfl) ?_
    refine WP.s .n (O.asg rfl) ?_
    refine WP.nil ?_
    refine QE.next ?_
    refine CW.ret ?_
    refine QE.thenR ?_
    refine ST.told (q := (kSl kC).is (combA x b)) 4 rfl (VP.le_trans (nil_le _) (is_eq (comb_no hno).1.symm)) ?_
    refine ST.told 5 rfl (is_eq (y := (combE x b)) (comb_no hno).2.symm) ?_
    exact QE.done (.inl rfl) rfl (ResOk.t rfl (ResOk.t rfl ResOk.nil)) (OImp.sub (List.nil_sublist _)) ⟨rfl, rfl⟩
  · refine WP.s (.g rfl rfl) (O.mv rfl) ?_
    refine WP.s (.g rfl rfl) (O.lenS rfl Try.underlying42) ?_
    refine WP.s (.g rfl rfl) (O.mv rfl) ?_
    refine WP.s (.g rfl rfl) (O.ne rfl rfl) ?_
    refine WP.s .n (O.pickF rfl rfl) ?_
    refine WP.nil ?_
    refine QE.next ?_
    refine CW.condD rfl (fun h_t22 => ?_) (fun h_t22 => ?_)
    · refine CW.seq ?_
      refine CW.region ?_
      refine WP.s .n (O.asg rfl) ?_
      refine WP.s .n (O.asg rfl) ?_
      refine WP.nil ?_
      refine QE.next ?_
      refine CW.ret ?_
      refine QE.thenR ?_
      have hno : ¬ combOk x b := fun h => h_t22 (by rw [h.2]; unfold shN; rw [if_pos h.1])
      refine ST.told (q := (kSl kC).is (combA x b)) 4 rfl (VP.le_trans (nil_le _) (is_eq (comb_no hno).1.symm)) ?_
      refine ST.told 5 rfl (is_eq (y := (combE x b)) (comb_no hno).2.symm) ?_
      exact QE.done (.inl rfl) rfl (ResOk.t rfl (ResOk.t rfl ResOk.nil)) (OImp.sub (List.nil_sublist _)) ⟨rfl, rfl⟩
    · refine CW.skip ?_
      refine QE.next ?_
      refine CW.seq ?_
      have hok : combOk x b := ⟨rect_of_shE h_t17, by have h := h_t22; unfold shN at h; rw [if_pos (rect_of_shE h_t17)] at h; omega⟩
      refine CW.region ?_
      refine WP.s .n (O.mv rfl) ?_
      refine WP.s .n (O.mv rfl) ?_
      refine WP.s .n (O.fn fn62 (evs.c rfl (evs.c rfl evs.nil)) (c_mat_combine n x b (by first | assumption | exact rectL hok.1 | (have := hok.2; omega)) (by first | assumption | exact rectL hok.1 | (have := hok.2; omega)) (by first | assumption | exact rectL hok.1 | (have := hok.2; omega)) (by first | assumption | exact rectL hok.1 | (have := hok.2; omega)) (by first | assumption | exact rectL hok.1 | (have := hok.2; omega)))) ?_
      refine WP.s .n (O.asg rfl) ?_
      refine WP.s .n (O.asg rfl) ?_
      refine WP.nil ?_
      refine QE.next ?_
      refine CW.ret ?_
      refine ST.told 4 rfl (is_eq (y := (combA x b)) (comb_yes hok).1) ?_
      refine ST.told 5 rfl (is_eq (y := (combE x b)) (comb_yes hok).2.symm) ?_
      exact QE.done (.inl rfl) rfl (ResOk.t rfl (ResOk.t rfl ResOk.nil)) (OImp.sub (List.nil_sublist _)) ⟨rfl, rfl⟩

end Fw


/- Gram-Schmidt data: what the program answers. -/
set_option linter.unusedVariables false
set_option linter.unusedSimpArgs false
set_option exponentiation.threshold 400
namespace Fw
open Go Go.Proofs

end Fw


/- Plain facts: what rows may be; Gram-Schmidt data as fractions. -/
set_option linter.unusedVariables false
set_option linter.unusedSimpArgs false
set_option exponentiation.threshold 400
namespace Fw
open Go

section
variable {C : Ctx} {Q : Exit → Act → World → Prop} {ρ ρ' : Env} {L L' : List OB}
end

/-! ### Which rows may be -/
def bigN (b : List (List Int)) (bits : Bool) (i : Nat) : Bool := (decide ((12 : Int) < (b.length : Int)) || (bits && decide ((256 : Int) < mbits b))) || (b.take i).any (fun r => decide ((12 : Int) < (r.length : Int)))
theorem bigN_no {b bits} (h : ¬ bigN b bits b.length = true) : b.length ≤ 12 ∧ (bits = true → mbits b ≤ 256) ∧ ∀ i, (b.getD i []).length ≤ 12 := by
  unfold bigN at h
  simp only [List.take_length, Bool.or_eq_true, Bool.and_eq_true, decide_eq_true_eq, List.any_eq_true, not_or, not_and, not_exists] at h
  obtain ⟨⟨h1, h2⟩, h3⟩ := h
  refine ⟨by omega, fun hb => by have := h2 hb; omega, fun i => ?_⟩
  by_cases hi : i < b.length
  · have := h3 (b.getD i []) (by rw [gde _ [] hi]; exact List.getElem_mem hi); omega
  · have e : b.getD i [] = [] := by simp [List.getD, Nat.le_of_not_lt hi]
    rw [e]; simp
theorem vbN_le {c : Int} {v : List Int} : ∀ {n : Int}, n ≤ c → (∀ x ∈ v, (bitlen x.natAbs : Int) ≤ c) → vbN n v ≤ c := by
  induction v with
  | nil => intro n h _; exact h
  | cons x v ih =>
    intro n h hx
    refine ih (n := vbF n x) ?_ (fun y hy => hx y (List.mem_cons_of_mem _ hy))
    have := hx x (by simp)
    unfold vbF
    omega
theorem mb_ge : ∀ (b : List (List Int)) (n : Int), n ≤ b.foldl vbN n
  | [], n => Int.le_refl n
  | r :: b, n => Int.le_trans (vbN_ge n r) (mb_ge b (vbN n r))
theorem mb_mem : ∀ {b : List (List Int)} {n : Int} {r : List Int} {x : Int}, r ∈ b → x ∈ r → (bitlen x.natAbs : Int) ≤ b.foldl vbN n
  | s :: b, n, r, x, h, hx => by
    rcases List.mem_cons.1 h with e | h
    · subst e; exact Int.le_trans (vbN_mem hx) (mb_ge b _)
    · exact mb_mem (b := b) (n := vbN n s) h hx
theorem mb_le {c : Int} : ∀ {b : List (List Int)} {n : Int}, n ≤ c → (∀ r ∈ b, ∀ x ∈ r, (bitlen x.natAbs : Int) ≤ c) → b.foldl vbN n ≤ c
  | [], n, h, _ => h
  | r :: b, n, h, hx => mb_le (b := b) (vbN_le h (hx r (by simp))) (fun s hs => hx s (List.mem_cons_of_mem _ hs))
theorem getD_mem {α : Type} {l : List α} {i : Nat} (d : α) (h : i < l.length) : l.getD i d ∈ l := by rw [gde l d h]; exact List.getElem_mem h
theorem mem_getD {α : Type} {l : List α} {x : α} (d : α) (h : x ∈ l) : ∃ i, i < l.length ∧ l.getD i d = x := by
  obtain ⟨i, hi, rfl⟩ := List.getElem_of_mem h
  exact ⟨i, hi, gde l d hi⟩
theorem mbits_Sz {b : List (List Int)} {c : Nat} (h : mbits b ≤ c) : SzM c b := by
  intro i k
  by_cases hi : i < b.length
  · by_cases hk : k < (b.getD i []).length
    · have h1 := mb_mem (n := 0) (getD_mem [] hi) (getD_mem 0 hk)
      have h2 := lt_bitlen ((b.getD i []).getD k 0).natAbs
      exact Nat.lt_of_lt_of_le h2 (Nat.pow_le_pow_right (by decide) (by have h3 : mbits b = b.foldl vbN 0 := rfl; omega))
    · have e : (b.getD i []).getD k 0 = 0 := by rw [List.getD_eq_getElem?_getD, List.getElem?_eq_none (by omega)]; rfl
      rw [e]; exact Sz.zero _
  · have e : b.getD i [] = [] := by simp [List.getD, Nat.le_of_not_lt hi]
    rw [e]; exact Sz.zero _
/-- rows as far as they were looked at -/
def rowsTo (b : List (List Int)) (bits : Bool) (i : Nat) : Prop := ∀ j, j < i → (b.getD j []).length ≤ 12 ∧ (bits = true → ∀ k, k < (b.getD j []).length → (bitlen ((b.getD j []).getD k 0).natAbs : Int) ≤ 256)
theorem rowsTo_end {b bits} (h0 : ¬ (12 : Int) < (b.length : Int)) (h : rowsTo b bits b.length) : ¬ bigN b bits b.length = true := by
  unfold bigN
  simp only [List.take_length, Bool.or_eq_true, Bool.and_eq_true, decide_eq_true_eq, List.any_eq_true, not_or, not_and, not_exists]
  refine ⟨⟨h0, fun hb => ?_⟩, fun r hr => ?_⟩
  · have : mbits b ≤ 256 := mb_le (by decide) fun r hr x hx => by
      obtain ⟨j, hj, rfl⟩ := mem_getD [] hr
      obtain ⟨k, hk, rfl⟩ := mem_getD 0 hx
      exact (h j hj).2 hb k hk
    omega
  · obtain ⟨j, hj, rfl⟩ := mem_getD [] hr
    have := (h j hj).1; omega
theorem big_row {b bits i} (hi : i < b.length) (h : (12 : Int) < ((b.getD i []).length : Int)) : bigN b bits b.length = true := by
  unfold bigN
  simp only [List.take_length, Bool.or_eq_true, decide_eq_true_eq, List.any_eq_true]
  exact .inr ⟨_, getD_mem [] hi, h⟩
theorem big_len {b bits} (h : (12 : Int) < (b.length : Int)) : bigN b bits b.length = true := by
  unfold bigN
  simp only [Bool.or_eq_true, decide_eq_true_eq]
  exact .inl (.inl h)

/-! ### The errors of a basis -/
/-! ### Gram-Schmidt data as fractions -/
end Fw


/- Which rows may be; the data of rows: what the functions answer. -/
set_option linter.unusedVariables false
set_option linter.unusedSimpArgs false
set_option exponentiation.threshold 400
namespace Fw
open Go Go.Proofs

end Fw


/- Gram-Schmidt data of the document. -/
set_option linter.unusedVariables false
set_option linter.unusedSimpArgs false
set_option exponentiation.threshold 400
namespace Fw
open Go Go.Proofs

end Fw


/- Plain facts: whether an answer on a shortest vector belongs together. -/
set_option linter.unusedVariables false
set_option linter.unusedSimpArgs false
set_option exponentiation.threshold 400
namespace Fw
open Go

theorem SzM.up {n m b} (h : SzM n b) (hm : n ≤ m) : SzM m b := fun i k => (h i k).up hm
theorem SzL.up {n m u} (h : SzL n u) (hm : n ≤ m) : SzL m u := fun k => (h k).up hm
theorem SzL.nil (n) : SzL n [] := fun k => by rw [List.getD_nil]; exact Sz.zero _
theorem SzL.sm {m u} (h : SzL m u) (hm : m ≤ 549755813888) : ∀ x ∈ u, Sm x := fun x hx => by
  obtain ⟨i, hi, rfl⟩ := mem_getD 0 hx
  exact (h i).sm hm
theorem sgn0 {x y : Int} : (x - y).sign = 0 ↔ x = y := by rw [Int.sign_eq_zero_iff_zero]; omega
end Fw


/- Own memory: what the helpers of the statements on layer 16 answer. -/
set_option linter.unusedVariables false
set_option linter.unusedSimpArgs false
set_option exponentiation.threshold 70
namespace Fw
open Go Go.Proofs

end Fw


/- ShortChecks: what the functions answer. -/
set_option linter.unusedVariables false
set_option linter.unusedSimpArgs false
set_option exponentiation.threshold 400
namespace Fw
open Go Go.Proofs

end Fw


/- Plain facts: forms by their matrices: which may be, their data, their values. -/
set_option linter.unusedVariables false
set_option linter.unusedSimpArgs false
set_option exponentiation.threshold 400
namespace Fw
open Go

def matF (a : List (List Int)) : Nat → Nat → Int := fun i j => (a.getD i []).getD j 0
def sqN (a : List (List Int)) (i : Nat) : Bool := (a.take i).all (fun r => decide ((r.length : Int) = (a.length : Int)))
def symB (a : List (List Int)) : Bool := (List.range a.length).all (fun i => (List.range i).all (fun k => decide (matF a i k = matF a k i)))
def qshape (a : List (List Int)) : Int := if bigN a true a.length = true then 40 else if a.length = 0 then 41 else if sqN a a.length = true then (if symB a = true then 0 else 220) else 8
theorem sqN_iff {a} : sqN a a.length = true ↔ ∀ i, i < a.length → (a.getD i []).length = a.length := by
  unfold sqN
  rw [List.take_length, List.all_eq_true]
  constructor
  · intro h i hi; have := of_decide_eq_true (h _ (getD_mem [] hi)); omega
  · intro h r hr; obtain ⟨i, hi, rfl⟩ := mem_getD [] hr; have := h i hi; simp only [decide_eq_true_eq]; omega
theorem symB_iff {a} : symB a = true ↔ ∀ i, i < a.length → ∀ k, k < i → matF a i k = matF a k i := by
  simp [symB]
theorem mbits_row {a : List (List Int)} {i} (hi : i < a.length) : mbits [a.getD i []] ≤ mbits a := by
  have h0 : (0 : Int) ≤ mbits a := mb_ge a 0
  show vbN 0 (a.getD i []) ≤ mbits a
  exact vbN_le h0 fun x hx => mb_mem (n := 0) (getD_mem [] hi) hx
theorem big_bits {a : List (List Int)} {i} (hi : i < a.length) (h : (256 : Int) < mbits [a.getD i []]) : bigN a true a.length = true := by
  have := mbits_row hi
  unfold bigN
  simp only [List.take_length, Bool.or_eq_true, Bool.and_eq_true, decide_eq_true_eq, List.any_eq_true]
  exact .inl (.inr ⟨trivial, by omega⟩)
theorem rowsTo_next {a : List (List Int)} {i} (h : rowsTo a true i) (h1 : ¬ (12 : Int) < ((a.getD i []).length : Int)) (h2 : ¬ (256 : Int) < mbits [a.getD i []]) : rowsTo a true (i + 1) := by
  intro j hj
  by_cases e : j = i
  · subst e
    refine ⟨by omega, fun _ k hk => ?_⟩
    have h3 : (bitlen ((a.getD j []).getD k 0).natAbs : Int) ≤ vbN 0 (a.getD j []) := vbN_mem (getD_mem 0 hk)
    have h4 : mbits [a.getD j []] = vbN 0 (a.getD j []) := rfl
    omega
  · exact h j (by omega)
theorem qshape_1 {a} (h : bigN a true a.length = true) : qshape a = 40 := if_pos h
theorem qshape_2 {a} (h : ¬ bigN a true a.length = true) (h2 : a.length = 0) : qshape a = 41 := by unfold qshape; rw [if_neg h, if_pos h2]
theorem qshape_3 {a} (h : ¬ bigN a true a.length = true) (h2 : ¬ a.length = 0) (h3 : ¬ sqN a a.length = true) : qshape a = 8 := by unfold qshape; rw [if_neg h, if_neg h2, if_neg h3]
theorem qshape_4 {a} (h : ¬ bigN a true a.length = true) (h2 : ¬ a.length = 0) (h3 : sqN a a.length = true) (h4 : ¬ symB a = true) : qshape a = 220 := by unfold qshape; rw [if_neg h, if_neg h2, if_pos h3, if_neg h4]
theorem qshape_5 {a} (h : ¬ bigN a true a.length = true) (h2 : ¬ a.length = 0) (h3 : sqN a a.length = true) (h4 : symB a = true) : qshape a = 0 := by unfold qshape; rw [if_neg h, if_neg h2, if_pos h3, if_pos h4]
theorem not_sq {a : List (List Int)} {i} (hi : i < a.length) (h : ((a.getD i []).length : Int) ≠ (a.length : Int)) : ¬ sqN a a.length = true := fun e => h (by rw [sqN_iff.1 e i hi])
theorem not_sym {a : List (List Int)} {i k} (hi : i < a.length) (hk : k < i) (h : (matF a i k - matF a k i).sign ≠ 0) : ¬ symB a = true := fun e => h (sgn0.2 (symB_iff.1 e i hi k hk))
/-- a matrix that is looked at as a form -/
structure Sqm (a : List (List Int)) : Prop where
  z : SzM 256 a
  n : a.length ≤ 12
  n0 : 0 < a.length
  q : ∀ i, i < a.length → (a.getD i []).length = a.length
  s : SymG (matF a)
theorem matF_out {a : List (List Int)} (h : ∀ i, i < a.length → (a.getD i []).length = a.length) {i j} (hij : ¬ (i < a.length ∧ j < a.length)) : matF a i j = 0 := by
  unfold matF
  by_cases hi : i < a.length
  · rw [List.getD_eq_getElem?_getD, List.getElem?_eq_none (by rw [h i hi]; omega)]; rfl
  · have e : a.getD i [] = [] := by rw [List.getD_eq_getElem?_getD, List.getElem?_eq_none (by omega)]; rfl
    rw [e]; rfl
theorem matF_sym {a : List (List Int)} (h : ∀ i, i < a.length → (a.getD i []).length = a.length) (hs : ∀ i, i < a.length → ∀ k, k < i → matF a i k = matF a k i) : SymG (matF a) := by
  intro i j
  by_cases hij : i < a.length ∧ j < a.length
  · rcases Nat.lt_trichotomy i j with h1 | h1 | h1
    · exact (hs j hij.2 i h1).symm
    · rw [h1]
    · exact hs i hij.1 j h1
  · rw [matF_out h hij, matF_out h (fun e => hij ⟨e.2, e.1⟩)]
theorem sqm_of {a} (h : qshape a = 0) : Sqm a := by
  by_cases h1 : bigN a true a.length = true
  · rw [qshape_1 h1] at h; exact absurd h (by decide)
  · by_cases h2 : a.length = 0
    · rw [qshape_2 h1 h2] at h; exact absurd h (by decide)
    · by_cases h3 : sqN a a.length = true
      · by_cases h4 : symB a = true
        · obtain ⟨b1, b2, b3⟩ := bigN_no h1
          exact ⟨mbits_Sz (b2 rfl), b1, by omega, sqN_iff.1 h3, matF_sym (sqN_iff.1 h3) (symB_iff.1 h4)⟩
        · rw [qshape_4 h1 h2 h3 h4] at h; exact absurd h (by decide)
      · rw [qshape_3 h1 h2 h3] at h; exact absurd h (by decide)
theorem matF_Sz {n a} (h : SzM n a) (i j) : Sz n (matF a i j) := h i j
def quadE (a : List (List Int)) : Int := if qshape a ≠ 0 then qshape a else if gOk (matF a) a.length = true then 0 else 221
theorem quadE_1 {a} (h : qshape a ≠ 0) : quadE a = qshape a := if_pos h
theorem quadE_2 {a} (h : ¬ qshape a ≠ 0) (h2 : gOk (matF a) a.length = false) : quadE a = 221 := by
  unfold quadE; rw [if_neg h, if_neg (by simp [h2])]
theorem quadE_3 {a} (h : ¬ qshape a ≠ 0) (h2 : gOk (matF a) a.length = true) : quadE a = 0 := by
  unfold quadE; rw [if_neg h, if_pos h2]
theorem quad_ok {a} (h : quadE a = 0) : Sqm a ∧ PosU (matF a) a.length := by
  unfold quadE at h
  by_cases h1 : qshape a ≠ 0
  · rw [if_pos h1] at h; exact absurd h h1
  · rw [if_neg h1] at h
    by_cases h2 : gOk (matF a) a.length = true
    · exact ⟨sqm_of (by omega), gOk_iff.1 h2⟩
    · rw [if_neg h2] at h; exact absurd h (by decide)
theorem sqm_rect {a} (h : Sqm a) : RectL a := fun i hi => by rw [h.q i hi, h.q 0 h.n0]
theorem sqm_rb {a} (h : Sqm a) : rect a = true := rect_iff.2 (sqm_rect h)
/-- the value at x -/
def qval (a : List (List Int)) (x : List Int) : Int := dotV (combV x a) x
def qvalE (a : List (List Int)) (x : List Int) : Int := if quadE a ≠ 0 then quadE a else if x.length = a.length then 0 else 8
def qvalV (a : List (List Int)) (x : List Int) : Int := if quadE a ≠ 0 then 0 else if x.length = a.length then qval a x else 0
theorem combV_Sz {n m x b} (hx : SzL n x) (hb : SzM m b) : SzL (n + m + b.length) (combV x b) := by
  intro k
  by_cases hk : k < (b.getD 0 []).length
  · rw [combV_get hk]; exact combN_Sz hx hb k _
  · rw [List.getD_eq_getElem?_getD, List.getElem?_eq_none (by rw [combV_len]; omega)]; exact Sz.zero _
end Fw


/- Forms by their matrices: what the program answers. -/
set_option linter.unusedVariables false
set_option linter.unusedSimpArgs false
set_option exponentiation.threshold 400
namespace Fw
open Go Go.Proofs

set_option maxRecDepth 20000 in
set_option maxHeartbeats 1000000 in
theorem c_quad_shaped (a : List (List Int)) : Fn Try.prog 42 [(kSl (kSl kZ)).is a] ((kInt .i64).is (qshape a)) := by
  refine Con.enter Try.func42 rfl rfl fun m w => ?_
  refine ST.fact (i := 0) rfl sl_len fun hB => ?_
  refine ST.fact (i := 0) rfl slsl_len fun hlc => ?_
  refine CW.seq ?_
  refine CW.region ?_
  refine WP.s .n (O.asg rfl) ?_
  refine WP.nil ?_
  refine QE.next ?_
  refine CW.seq ?_
  refine CW.seq ?_
  refine CW.region ?_
  refine WP.s .n (O.mv rfl) ?_
  refine WP.s .n (O.lenS rfl Try.underlying45) ?_
  refine WP.s .n (O.gt rfl rfl) ?_
  refine WP.nil ?_
  refine QE.next ?_
  refine CW.condD rfl (fun h_t11 => ?_) (fun h_t11 => ?_)
  · refine CW.seq ?_
    refine CW.region ?_
    refine WP.s .n (O.asg rfl) ?_
    refine WP.nil ?_
    refine QE.next ?_
    refine CW.ret ?_
    refine QE.thenR ?_
    refine ST.told 2 rfl (is_eq (y := (qshape a)) (qshape_1 (big_len h_t11)).symm) ?_
    exact QE.done (.inl rfl) rfl (ResOk.t rfl ResOk.nil) (OImp.sub (List.nil_sublist _)) ⟨rfl, rfl⟩
  · refine CW.skip ?_
    refine QE.next ?_
    refine CW.seq ?_
    refine CW.seq ?_
    refine CW.region ?_
    refine WP.s .n (O.mv rfl) ?_
    refine WP.s .n (O.lenS rfl Try.underlying45) ?_
    refine WP.s .n (O.mv rfl) ?_
    refine WP.nil ?_
    refine QE.next ?_
    refine CW.block ?_
    refine CW.loop (fun (i : Nat) => i ≤ a.length ∧ rowsTo a true i) (fun (i : Nat) => [(0, (kSl (kSl kZ)).is a), (12, (kSl (kSl kZ)).is a), (13, (kInt .i64).is (a.length : Int)), (14, (kInt .i64).is (i : Int))]) (fun (i : Nat) => []) (fun (i : Nat) => a.length - i) 0 ⟨Nat.zero_le _, fun j hj => absurd hj (by omega)⟩ (Imp.cons rfl (Imp.cons rfl (Imp.cons rfl (Imp.consLe rfl (is_eq (y := (0 : Int)) (by first | rfl | omega | assumption)) Imp.nil)))) (OImp.refl _) ?_
    intro i ⟨hi, hA⟩
    refine CW.seq ?_
    refine CW.region ?_
    refine WP.s .n (O.lt rfl rfl) ?_
    refine WP.nil ?_
    refine QE.next ?_
    refine CW.seq ?_
    refine CW.condD rfl (fun h_t15 => ?_) (fun h_t15 => ?_)
    · refine CW.skip ?_
      refine QE.next ?_
      refine CW.seq ?_
      refine CW.block ?_
      refine CW.seq ?_
      have hlci := hlc i
      refine CW.region ?_
      refine WP.s .n (O.ix i rfl rfl Try.underlying45 ty42 rfl (v := (a.getD i [])) (gd [] (by first | omega | (have h1 := hQ i (by omega); have h2 := hQ k (by omega); omega)))) ?_
      refine WP.s .n (O.ldP rfl ty42) ?_
      refine WP.s .n (O.asg rfl) ?_
      refine WP.nil ?_
      refine QE.next ?_
      refine CW.seq ?_
      refine CW.region ?_
      refine WP.s .n (O.mv rfl) ?_
      refine WP.s .n (O.lenS rfl Try.underlying42) ?_
      refine WP.s .n (O.gt rfl rfl) ?_
      refine WP.s .n (O.mv rfl) ?_
      refine WP.splitD 21 rfl (fun h_t21 => ?_) (fun h_t21 => ?_)
      · refine WP.ku (b := true) rfl rfl ?_
        refine WP.ku (b := true) rfl rfl ?_
        refine WP.ku (b := true) rfl rfl ?_
        refine WP.ku (b := true) rfl rfl ?_
        refine WP.s .n (O.pickT rfl rfl) ?_
        refine WP.nil ?_
        refine QE.next ?_
        refine CW.condT rfl ?_
        refine CW.seq ?_
        refine CW.region ?_
        refine WP.s .n (O.asg rfl) ?_
        refine WP.nil ?_
        refine QE.next ?_
        refine CW.ret ?_
        refine QE.blkR ?_
        refine QE.thenR ?_
        refine QE.thenR ?_
        refine QE.blkR ?_
        refine QE.thenR ?_
        refine ST.told 2 rfl (is_eq (y := (qshape a)) (qshape_1 (big_row (i := i) (by omega) (by omega))).symm) ?_
        exact QE.done (.inl rfl) rfl (ResOk.t rfl ResOk.nil) (OImp.sub (List.nil_sublist _)) ⟨rfl, rfl⟩
      · refine WP.s (.g rfl rfl) (O.mv rfl) ?_
        refine WP.s (.g rfl rfl) (O.bs Try.underlying45 el42_sl_Z (evl.c rfl evl.n) rfl (by decide)) ?_
        refine WP.s (.g rfl rfl) (O.fn fn60 (evs.c rfl evs.nil) (c_mat_Bits [(a.getD i [])])) ?_
        refine WP.s (.g rfl rfl) (O.gt rfl rfl) ?_
        refine WP.s .n (O.pickF rfl rfl) ?_
        refine WP.nil ?_
        refine QE.next ?_
        refine CW.condD rfl (fun h_t26 => ?_) (fun h_t26 => ?_)
        · refine CW.seq ?_
          refine CW.region ?_
          refine WP.s .n (O.asg rfl) ?_
          refine WP.nil ?_
          refine QE.next ?_
          refine CW.ret ?_
          refine QE.blkR ?_
          refine QE.thenR ?_
          refine QE.thenR ?_
          refine QE.blkR ?_
          refine QE.thenR ?_
          refine ST.told 2 rfl (is_eq (y := (qshape a)) (qshape_1 (big_bits (i := i) (by omega) (by omega))).symm) ?_
          exact QE.done (.inl rfl) rfl (ResOk.t rfl ResOk.nil) (OImp.sub (List.nil_sublist _)) ⟨rfl, rfl⟩
        · refine CW.skip ?_
          refine QE.blkN ?_
          refine QE.next ?_
          refine CW.region ?_
          refine WP.s .n (O.add rfl rfl (c := ((i : Int) + 1)) (w64 (by omega))) ?_
          refine WP.s .n (O.mv rfl) ?_
          refine WP.nil ?_
          exact QE.round (i + 1) (by omega) ⟨by omega, rowsTo_next hA (by omega) (by omega)⟩ (Imp.cons rfl (Imp.cons rfl (Imp.cons rfl (Imp.consLe rfl (is_eq (y := (((i + 1) : Nat) : Int)) (by first | rfl | omega | assumption)) Imp.nil)))) (OImp.refl _)
    · refine CW.exit ?_
      refine QE.thenE ?_
      refine QE.thenE ?_
      refine QE.blkH ?_
      refine QE.next ?_
      refine CW.seq ?_
      refine CW.seq ?_
      have hno := rowsTo_end h_t11 (by rw [show i = a.length by omega] at hA; exact hA)
      refine CW.region ?_
      refine WP.s .n (O.mv rfl) ?_
      refine WP.s .n (O.lenS rfl Try.underlying45) ?_
      refine WP.s .n (O.eq rfl rfl) ?_
      refine WP.nil ?_
      refine QE.next ?_
      refine CW.condD rfl (fun h_t30 => ?_) (fun h_t30 => ?_)
      · refine CW.seq ?_
        refine CW.region ?_
        refine WP.s .n (O.asg rfl) ?_
        refine WP.nil ?_
        refine QE.next ?_
        refine CW.ret ?_
        refine QE.thenR ?_
        refine ST.told 2 rfl (is_eq (y := (qshape a)) (qshape_2 hno (by omega)).symm) ?_
        exact QE.done (.inl rfl) rfl (ResOk.t rfl ResOk.nil) (OImp.sub (List.nil_sublist _)) ⟨rfl, rfl⟩
      · refine CW.skip ?_
        refine QE.next ?_
        refine CW.seq ?_
        refine CW.seq ?_
        refine CW.region ?_
        refine WP.s .n (O.mv rfl) ?_
        refine WP.s .n (O.lenS rfl Try.underlying45) ?_
        refine WP.s .n (O.mv rfl) ?_
        refine WP.nil ?_
        refine QE.next ?_
        refine CW.block ?_
        refine CW.loop (fun (j : Nat) => j ≤ a.length ∧ ∀ l, l < j → (a.getD l []).length = a.length) (fun (j : Nat) => [(0, (kSl (kSl kZ)).is a), (31, (kSl (kSl kZ)).is a), (32, (kInt .i64).is (a.length : Int)), (33, (kInt .i64).is (j : Int))]) (fun (j : Nat) => []) (fun (j : Nat) => a.length - j) 0 ⟨Nat.zero_le _, fun l hl => absurd hl (by omega)⟩ (Imp.cons rfl (Imp.cons rfl (Imp.cons rfl (Imp.consLe rfl (is_eq (y := (0 : Int)) (by first | rfl | omega | assumption)) Imp.nil)))) (OImp.refl _) ?_
        intro j ⟨hj, hQ⟩
        refine CW.seq ?_
        refine CW.region ?_
        refine WP.s .n (O.lt rfl rfl) ?_
        refine WP.nil ?_
        refine QE.next ?_
        refine CW.seq ?_
        refine CW.condD rfl (fun h_t34 => ?_) (fun h_t34 => ?_)
        · refine CW.skip ?_
          refine QE.next ?_
          refine CW.seq ?_
          refine CW.block ?_
          refine CW.seq ?_
          refine CW.region ?_
          refine WP.s .n (O.ix j rfl rfl Try.underlying45 ty42 rfl (v := (a.getD j [])) (gd [] (by first | omega | (have h1 := hQ i (by omega); have h2 := hQ k (by omega); omega)))) ?_
          refine WP.s .n (O.ldP rfl ty42) ?_
          refine WP.s .n (O.asg rfl) ?_
          refine WP.nil ?_
          refine QE.next ?_
          refine CW.seq ?_
          refine CW.region ?_
          refine WP.s .n (O.mv rfl) ?_
          refine WP.s .n (O.lenS rfl Try.underlying42) ?_
          refine WP.s .n (O.mv rfl) ?_
          refine WP.s .n (O.lenS rfl Try.underlying45) ?_
          refine WP.s .n (O.ne rfl rfl) ?_
          refine WP.nil ?_
          refine QE.next ?_
          refine CW.condD rfl (fun h_t41 => ?_) (fun h_t41 => ?_)
          · refine CW.seq ?_
            refine CW.region ?_
            refine WP.s .n (O.asg rfl) ?_
            refine WP.nil ?_
            refine QE.next ?_
            refine CW.ret ?_
            refine QE.blkR ?_
            refine QE.thenR ?_
            refine QE.thenR ?_
            refine QE.blkR ?_
            refine QE.thenR ?_
            refine ST.told 2 rfl (is_eq (y := (qshape a)) (qshape_3 hno (by omega) (not_sq (i := j) (by omega) (by omega))).symm) ?_
            exact QE.done (.inl rfl) rfl (ResOk.t rfl ResOk.nil) (OImp.sub (List.nil_sublist _)) ⟨rfl, rfl⟩
          · refine CW.skip ?_
            refine QE.blkN ?_
            refine QE.next ?_
            refine CW.region ?_
            refine WP.s .n (O.add rfl rfl (c := ((j : Int) + 1)) (w64 (by omega))) ?_
            refine WP.s .n (O.mv rfl) ?_
            refine WP.nil ?_
            exact QE.round (j + 1) (by omega) ⟨by omega, fun l hl => if e : l = j then by subst e; omega else hQ l (by omega)⟩ (Imp.cons rfl (Imp.cons rfl (Imp.cons rfl (Imp.consLe rfl (is_eq (y := (((j + 1) : Nat) : Int)) (by first | rfl | omega | assumption)) Imp.nil)))) (OImp.refl _)
        · refine CW.exit ?_
          refine QE.thenE ?_
          refine QE.thenE ?_
          refine QE.blkH ?_
          refine QE.next ?_
          refine CW.seq ?_
          refine CW.seq ?_
          have hsq := sqN_iff.2 (fun l hl => hQ l (by omega))
          refine CW.region ?_
          refine WP.s .n (O.mv rfl) ?_
          refine WP.s .n (O.lenS rfl Try.underlying45) ?_
          refine WP.s .n (O.mv rfl) ?_
          refine WP.nil ?_
          refine QE.next ?_
          refine CW.block ?_
          refine CW.loop (fun (i : Nat) => i ≤ a.length ∧ ∀ x, x < i → ∀ y, y < x → matF a x y = matF a y x) (fun (i : Nat) => [(0, (kSl (kSl kZ)).is a), (44, (kInt .i64).is (a.length : Int)), (45, (kInt .i64).is (i : Int))]) (fun (i : Nat) => []) (fun (i : Nat) => a.length - i) 0 ⟨Nat.zero_le _, fun l hl => absurd hl (by omega)⟩ (Imp.cons rfl (Imp.cons rfl (Imp.consLe rfl (is_eq (y := (0 : Int)) (by first | rfl | omega | assumption)) Imp.nil))) (OImp.refl _) ?_
          intro i ⟨hi, hS⟩
          refine CW.seq ?_
          refine CW.region ?_
          refine WP.s .n (O.lt rfl rfl) ?_
          refine WP.nil ?_
          refine QE.next ?_
          refine CW.seq ?_
          refine CW.condD rfl (fun h_t46 => ?_) (fun h_t46 => ?_)
          · refine CW.skip ?_
            refine QE.next ?_
            refine CW.seq ?_
            refine CW.block ?_
            refine CW.seq ?_
            refine CW.region ?_
            refine WP.s .n (O.mv rfl) ?_
            refine WP.s .n (O.asg rfl) ?_
            refine WP.nil ?_
            refine QE.next ?_
            refine CW.seq ?_
            refine CW.region ?_
            refine WP.s .n (O.mv rfl) ?_
            refine WP.s .n (O.mv rfl) ?_
            refine WP.nil ?_
            refine QE.next ?_
            refine CW.block ?_
            refine CW.loop (fun (k : Nat) => k ≤ i ∧ ∀ y, y < k → matF a i y = matF a y i) (fun (k : Nat) => [(0, (kSl (kSl kZ)).is a), (7, (kInt .i64).is (i : Int)), (44, (kInt .i64).is (a.length : Int)), (45, (kInt .i64).is (i : Int)), (48, (kInt .i64).is (i : Int)), (49, (kInt .i64).is (k : Int))]) (fun (k : Nat) => []) (fun (k : Nat) => i - k) 0 ⟨Nat.zero_le _, fun l hl => absurd hl (by omega)⟩ (Imp.cons rfl (Imp.cons rfl (Imp.cons rfl (Imp.cons rfl (Imp.cons rfl (Imp.consLe rfl (is_eq (y := (0 : Int)) (by first | rfl | omega | assumption)) Imp.nil)))))) (OImp.refl _) ?_
            intro k ⟨hk, hK⟩
            refine CW.seq ?_
            refine CW.region ?_
            refine WP.s .n (O.lt rfl rfl) ?_
            refine WP.nil ?_
            refine QE.next ?_
            refine CW.seq ?_
            refine CW.condD rfl (fun h_t50 => ?_) (fun h_t50 => ?_)
            · refine CW.skip ?_
              refine QE.next ?_
              refine CW.seq ?_
              refine CW.block ?_
              refine CW.seq ?_
              refine CW.region ?_
              refine WP.s .n (O.mv rfl) ?_
              refine WP.s .n (O.asg rfl) ?_
              refine WP.nil ?_
              refine QE.next ?_
              refine CW.seq ?_
              refine CW.draw (Γ := [.fr ((kSl (kSl kZ)).is a), .fr ((kInt .i64).is (i : Int)), .fr (VP.pim (kSl kZ) (a.getD i [])), .fr ((kSl kZ).is (a.getD i [])), .fr ((kInt .i64).is (k : Int)), .fr (VP.pim kZ ((a.getD i []).getD k 0)), .fr (kZ.is ((a.getD i []).getD k 0)), .fr ((kSl (kSl kZ)).is a), .fr ((kInt .i64).is (k : Int)), .fr (VP.pim (kSl kZ) (a.getD k [])), .fr ((kSl kZ).is (a.getD k [])), .fr ((kInt .i64).is (i : Int)), .fr (VP.pim kZ ((a.getD k []).getD i 0)), .fr (kZ.is ((a.getD k []).getD i 0)), .fr ((kInt .i64).is ((((a.getD i []).getD k 0) - ((a.getD k []).getD i 0)).sign)), .fr (kBool.is (decide (((((a.getD i []).getD k 0) - ((a.getD k []).getD i 0)).sign) ≠ 0)))]) (lates := [false, false, false, false, false, false, false, false, false, false, false, false, false, false, false, false]) (by kernel_rfl) (Chk.of rfl (by kernel_rfl) rfl) (fun _ _ _ _ _ h => h) (fun q_ x_ h_ => ?_) (fun σ1 => ?_)
              · match q_, h_ with
                | 0, h_ => cases h_; exact Ob.f rfl .n fun N => (O.mv rfl)
                | 1, h_ => cases h_; exact Ob.f rfl .n fun N => (O.mv rfl)
                | 2, h_ => cases h_; exact Ob.f rfl .n fun N => (O.ix i rfl rfl Try.underlying45 ty42 rfl (v := (a.getD i [])) (gd [] (by first | omega | (have h1 := hQ i (by omega); have h2 := hQ k (by omega); omega))))
                | 3, h_ => cases h_; exact Ob.f rfl .n fun N => (O.ldP rfl ty42)
                | 4, h_ => cases h_; exact Ob.f rfl .n fun N => (O.mv rfl)
                | 5, h_ => cases h_; exact Ob.f rfl .n fun N => (O.ix k rfl rfl Try.underlying42 ty24 rfl (v := ((a.getD i []).getD k 0)) (gd 0 (by first | omega | (have h1 := hQ i (by omega); have h2 := hQ k (by omega); omega))))
                | 6, h_ => cases h_; exact Ob.f rfl .n fun N => (O.ldP rfl ty24)
                | 7, h_ => cases h_; exact Ob.f rfl .n fun N => (O.mv rfl)
                | 8, h_ => cases h_; exact Ob.f rfl .n fun N => (O.mv rfl)
                | 9, h_ => cases h_; exact Ob.f rfl .n fun N => (O.ix k rfl rfl Try.underlying45 ty42 rfl (v := (a.getD k [])) (gd [] (by first | omega | (have h1 := hQ i (by omega); have h2 := hQ k (by omega); omega))))
                | 10, h_ => cases h_; exact Ob.f rfl .n fun N => (O.ldP rfl ty42)
                | 11, h_ => cases h_; exact Ob.f rfl .n fun N => (O.mv rfl)
                | 12, h_ => cases h_; exact Ob.f rfl .n fun N => (O.ix i rfl rfl Try.underlying42 ty24 rfl (v := ((a.getD k []).getD i 0)) (gd 0 (by first | omega | (have h1 := hQ i (by omega); have h2 := hQ k (by omega); omega))))
                | 13, h_ => cases h_; exact Ob.f rfl .n fun N => (O.ldP rfl ty24)
                | 14, h_ => cases h_; exact Ob.f rfl .n fun N => (O.fn fn16 (evs.c rfl (evs.c rfl evs.nil)) (c_zint_Compare ((a.getD i []).getD k 0) ((a.getD k []).getD i 0)))
                | 15, h_ => cases h_; exact Ob.f rfl .n fun N => (O.ne rfl rfl)
                | n_ + 16, h_ => simp at h_
              refine WP.nil ?_
              refine QE.next ?_
              refine CW.condD rfl (fun h_t67 => ?_) (fun h_t67 => ?_)
              · refine CW.seq ?_
                refine CW.region ?_
                refine WP.s .n (O.asg rfl) ?_
                refine WP.nil ?_
                refine QE.next ?_
                refine CW.ret ?_
                refine QE.blkR ?_
                refine QE.thenR ?_
                refine QE.thenR ?_
                refine QE.blkR ?_
                refine QE.blkR ?_
                refine QE.thenR ?_
                refine QE.thenR ?_
                refine QE.blkR ?_
                refine QE.thenR ?_
                refine ST.told 2 rfl (is_eq (y := (qshape a)) (qshape_4 hno (by omega) hsq (not_sym (i := i) (k := k) (by omega) (by omega) h_t67)).symm) ?_
                exact QE.done (.inl rfl) rfl (ResOk.t rfl ResOk.nil) (OImp.sub (List.nil_sublist _)) ⟨rfl, rfl⟩
              · refine CW.skip ?_
                refine QE.blkN ?_
                refine QE.next ?_
                refine CW.region ?_
                refine WP.s .n (O.add rfl rfl (c := ((k : Int) + 1)) (w64 (by omega))) ?_
                refine WP.s .n (O.mv rfl) ?_
                refine WP.nil ?_
                exact QE.round (k + 1) (by omega) ⟨by omega, fun y hy => if e : y = k then by subst e; exact sgn0.1 (Classical.byContradiction fun h => h_t67 h) else hK y (by omega)⟩ (Imp.cons rfl (Imp.cons rfl (Imp.cons rfl (Imp.cons rfl (Imp.cons rfl (Imp.consLe rfl (is_eq (y := (((k + 1) : Nat) : Int)) (by first | rfl | omega | assumption)) Imp.nil)))))) (OImp.refl _)
            · refine CW.exit ?_
              refine QE.thenE ?_
              refine QE.thenE ?_
              refine QE.blkH ?_
              refine QE.blkN ?_
              refine QE.next ?_
              refine CW.region ?_
              refine WP.s .n (O.add rfl rfl (c := ((i : Int) + 1)) (w64 (by omega))) ?_
              refine WP.s .n (O.mv rfl) ?_
              refine WP.nil ?_
              exact QE.round (i + 1) (by omega) ⟨by omega, fun x hx => if e : x = i then by subst e; exact fun y hy => hK y (by omega) else hS x (by omega)⟩ (Imp.cons rfl (Imp.cons rfl (Imp.consLe rfl (is_eq (y := (((i + 1) : Nat) : Int)) (by first | rfl | omega | assumption)) Imp.nil))) (OImp.refl _)
          · refine CW.exit ?_
            refine QE.thenE ?_
            refine QE.thenE ?_
            refine QE.blkH ?_
            refine QE.next ?_
            refine CW.seq ?_
            refine CW.region ?_
            refine WP.s .n (O.asg rfl) ?_
            refine WP.nil ?_
            refine QE.next ?_
            refine CW.ret ?_
            refine ST.told 2 rfl (is_eq (y := (qshape a)) (qshape_5 hno (by omega) hsq (symB_iff.2 (fun x hx => hS x (by omega)))).symm) ?_
            exact QE.done (.inl rfl) rfl (ResOk.t rfl ResOk.nil) (OImp.sub (List.nil_sublist _)) ⟨rfl, rfl⟩

set_option maxRecDepth 20000 in
set_option maxHeartbeats 1000000 in
theorem c_quad_data (n : Nat) (a : List (List Int)) (ha : SzM n a) (hq : ∀ i, i < a.length → (a.getD i []).length = a.length) (hs : SymG (matF a)) (hl : a.length ≤ 12) (hn : n ≤ 4194304) : Fn Try.prog 43 [(kSl (kSl kZ)).is a] (VP.tup [(kPair (kSl kC) (kSl (kSl kC))).is (gsoV (matF a) a.length), kBool.is (gOk (matF a) a.length)]) := by
  refine Con.enter Try.func43 rfl rfl fun m w => ?_
  refine ST.fact (i := 0) rfl sl_len fun hB => ?_
  refine ST.fact (i := 0) rfl slsl_len fun hlc => ?_
  have hz : ∀ i j, Sz (n + n + 12) (matF a i j) := fun i j => (matF_Sz ha i j).up (by omega)
  have hU : ∀ k, k ≤ 12 → szU (n + n + 12) k ≤ 34359902208 := fun k hk => by have := szU_le (n + n + 12) hk; omega
  refine CW.seq ?_
  refine CW.region ?_
  refine WP.al .n z79_pr_sl_C_sl_sl_C_ fun b1 => ?_
  refine WP.s .n (O.asg rfl) ?_
  refine WP.nil ?_
  refine QE.next ?_
  refine CW.seq ?_
  refine CW.region ?_
  refine WP.s .n (O.fn fn11 (evs.l rfl (i64_int (by omega)) evs.nil) (c_zint_Of 1)) ?_
  refine WP.bso .n Try.underlying42 el24_C (evl.c rfl evl.n) rfl (by decide) fun v2 => ?_
  refine ST.rowcell 0 rfl fun hcell_ => ?_
  refine WP.s .n (O.bld lit79_pr_val_val_ rfl (evp.l rfl (ex_val (by first | rfl | assumption)) evp.n) (.cons rfl (Lens.fst (Lens.id _)) (.nil _))) ?_
  refine WP.al .n z79_pr_val_val_ fun b3 => ?_
  refine WP.t .n (O.stW (l := (kPair kVal kVal)) (u := (v2, (.slice none 0 0))) 0 rfl rfl rfl ty79 rfl (VP.le_refl _)) ?_
  refine WP.nil ?_
  refine QE.next ?_
  refine CW.seq ?_
  refine CW.seq ?_
  refine CW.region ?_
  refine WP.s .n (O.mv rfl) ?_
  refine WP.s .n (O.lenS rfl Try.underlying45) ?_
  refine WP.s .n (O.mv rfl) ?_
  refine WP.nil ?_
  refine QE.next ?_
  refine CW.block ?_
  refine ST.nilrow 42 (kSl kC) ?_
  refine CW.loop3 (fun (i : Nat) (vD : Value) (vL : Value) => i ≤ a.length ∧ PosU (matF a) i) (fun (i : Nat) (vD : Value) (vL : Value) => [(0, (kSl (kSl kZ)).is a), (2, VP.ex (.pointer (some ⟨b1, 0, none⟩))), (3, kBool.is false), (4, VP.ex (.pointer (some ⟨b3, 0, none⟩))), (16, (kInt .i64).is (a.length : Int)), (17, (kInt .i64).is (i : Int))]) (fun (i : Nat) (vD : Value) (vL : Value) => [OB.row vL 42 (kSl kC) (gLs (matF a) i), OB.box b3 79 (kPair kVal kVal) (vD, vL), OB.row vD 24 kC (gDs (matF a) i), OB.box b1 79 (kPair (kSl kC) (kSl (kSl kC))) ([], [])]) (fun (i : Nat) (vD : Value) (vL : Value) => a.length - i) 0 v2 (.slice none 0 0) ⟨Nat.zero_le _, fun l hl => absurd hl (by omega)⟩ (Imp.cons rfl (Imp.cons rfl (Imp.cons rfl (Imp.cons rfl (Imp.cons rfl (Imp.consLe rfl (is_eq (y := (0 : Int)) (by first | rfl | omega | assumption)) Imp.nil)))))) (OImp.os (OS.keepLe (OB.row_eq (by first | rfl | omega | assumption)) (OS.keep (OS.keepLe (OB.row_eq (by first | rfl | omega | assumption)) (OS.keep OS.nil))))) ?_
  intro i vD vL ⟨hi, hP⟩
  refine CW.seq ?_
  refine CW.region ?_
  refine WP.s .n (O.lt rfl rfl) ?_
  refine WP.nil ?_
  refine QE.next ?_
  refine CW.seq ?_
  refine CW.condD rfl (fun h_t18 => ?_) (fun h_t18 => ?_)
  · refine CW.skip ?_
    refine QE.next ?_
    refine CW.seq ?_
    refine CW.block ?_
    refine CW.seq ?_
    refine CW.region ?_
    refine WP.s .n (O.mv rfl) ?_
    refine WP.s .n (O.asg rfl) ?_
    refine WP.nil ?_
    refine QE.next ?_
    refine CW.seq ?_
    refine CW.region ?_
    refine WP.s .n (O.asg rfl) ?_
    refine WP.nil ?_
    refine QE.next ?_
    refine CW.seq ?_
    refine CW.seq ?_
    refine CW.region ?_
    refine WP.s .n (O.asg rfl) ?_
    refine WP.nil ?_
    refine QE.next ?_
    refine CW.block ?_
    refine ST.nilrow 24 kC ?_
    refine CW.loop2 (fun (j : Nat) (v : Value) => j ≤ i + 1) (fun (j : Nat) (v : Value) => [(0, (kSl (kSl kZ)).is a), (2, VP.ex (.pointer (some ⟨b1, 0, none⟩))), (3, kBool.is false), (4, VP.ex (.pointer (some ⟨b3, 0, none⟩))), (5, (kInt .i64).is (i : Int)), (6, VP.ex v), (7, (kInt .i64).is (j : Int)), (16, (kInt .i64).is (a.length : Int)), (17, (kInt .i64).is (i : Int))]) (fun (j : Nat) (v : Value) => [OB.row v 24 kC (gRow (matF a) i j), OB.row vL 42 (kSl kC) (gLs (matF a) i), OB.box b3 79 (kPair kVal kVal) (vD, vL), OB.row vD 24 kC (gDs (matF a) i), OB.box b1 79 (kPair (kSl kC) (kSl (kSl kC))) ([], [])]) (fun (j : Nat) (v : Value) => i + 1 - j) 0 (.slice none 0 0) (by omega) (Imp.cons rfl (Imp.cons rfl (Imp.cons rfl (Imp.cons rfl (Imp.cons rfl (Imp.cons rfl (Imp.consLe rfl (is_eq (y := (0 : Int)) (by first | rfl | omega | assumption)) (Imp.cons rfl (Imp.cons rfl Imp.nil))))))))) (OImp.os (OS.keepLe (OB.row_eq (by first | rfl | omega | assumption)) (OS.keep (OS.keep (OS.keep (OS.keep OS.nil)))))) ?_
    intro j v hj
    refine CW.seq ?_
    refine CW.seq ?_
    refine CW.region ?_
    refine WP.s .n (O.mv rfl) ?_
    refine WP.s .n (O.mv rfl) ?_
    refine WP.s .n (O.le rfl rfl) ?_
    refine WP.nil ?_
    refine QE.next ?_
    refine CW.condD rfl (fun h_t22 => ?_) (fun h_t22 => ?_)
    · refine CW.skip ?_
      refine QE.next ?_
      refine CW.seq ?_
      refine CW.block ?_
      refine CW.seq ?_
      refine CW.region ?_
      refine WP.s .n (O.mv rfl) ?_
      refine WP.s .n (O.mv rfl) ?_
      refine WP.s .n (O.ix i rfl rfl Try.underlying45 ty42 rfl (v := (a.getD i [])) (gd [] (by first | omega | (simp only [gRow_len, gDs_len, gLs_len]; omega) | (have := hq i (by omega); omega)))) ?_
      refine WP.s .n (O.ldP rfl ty42) ?_
      refine WP.s .n (O.mv rfl) ?_
      refine WP.s .n (O.ix j rfl rfl Try.underlying42 ty24 rfl (v := ((a.getD i []).getD j 0)) (gd 0 (by first | omega | (simp only [gRow_len, gDs_len, gLs_len]; omega) | (have := hq i (by omega); omega)))) ?_
      refine WP.s .n (O.ldP rfl ty24) ?_
      refine WP.s .n (O.fn fn30 (evs.c rfl evs.nil) (c_zint_Form ((a.getD i []).getD j 0))) ?_
      refine WP.al .n z24_C fun b4 => ?_
      refine WP.t .n (O.stW (l := kC) (u := ((a.getD i []).getD j 0)) 0 rfl rfl rfl ty24 rfl (VP.le_refl _)) ?_
      refine WP.nil ?_
      refine QE.next ?_
      refine CW.seq ?_
      refine CW.seq ?_
      refine CW.region ?_
      refine WP.s .n (O.mv rfl) ?_
      refine WP.s .n (O.mv rfl) ?_
      refine WP.nil ?_
      refine QE.next ?_
      refine CW.block ?_
      refine CW.loop2 (fun (k : Nat) (p : Nat) => k ≤ j) (fun (k : Nat) (p : Nat) => [(0, (kSl (kSl kZ)).is a), (2, VP.ex (.pointer (some ⟨b1, 0, none⟩))), (3, kBool.is false), (4, VP.ex (.pointer (some ⟨b3, 0, none⟩))), (5, (kInt .i64).is (i : Int)), (6, VP.ex v), (7, (kInt .i64).is (j : Int)), (8, VP.ex (.pointer (some ⟨p, 0, none⟩))), (33, (kInt .i64).is (j : Int)), (34, (kInt .i64).is (k : Int)), (16, (kInt .i64).is (a.length : Int)), (17, (kInt .i64).is (i : Int))]) (fun (k : Nat) (p : Nat) => [OB.box p 24 kC (uE (matF a) k i j), OB.row v 24 kC (gRow (matF a) i j), OB.row vL 42 (kSl kC) (gLs (matF a) i), OB.box b3 79 (kPair kVal kVal) (vD, vL), OB.row vD 24 kC (gDs (matF a) i), OB.box b1 79 (kPair (kSl kC) (kSl (kSl kC))) ([], [])]) (fun (k : Nat) (p : Nat) => j - k) 0 b4 (by omega) (Imp.cons rfl (Imp.cons rfl (Imp.cons rfl (Imp.cons rfl (Imp.cons rfl (Imp.cons rfl (Imp.cons rfl (Imp.cons rfl (Imp.cons rfl (Imp.consLe rfl (is_eq (y := (0 : Int)) (by first | rfl | omega | assumption)) (Imp.cons rfl (Imp.cons rfl Imp.nil)))))))))))) (OImp.os (OS.keepLe (OB.box_eq (by first | rfl | omega | assumption)) (OS.keep (OS.keep (OS.keep (OS.keep (OS.keep OS.nil))))))) ?_
      intro k p hk
      refine CW.seq ?_
      refine CW.region ?_
      refine WP.s .n (O.lt rfl rfl) ?_
      refine WP.nil ?_
      refine QE.next ?_
      refine CW.seq ?_
      refine CW.condD rfl (fun h_t35 => ?_) (fun h_t35 => ?_)
      · refine CW.skip ?_
        refine QE.next ?_
        refine CW.seq ?_
        refine CW.block ?_
        refine CW.seq ?_
        have hE := uE_Sz hs hz hP
        have hD := uD_Sz hs hz hP
        have hUk := hU k (by omega)
        refine CW.region ?_
        refine WP.s .n (O.mv rfl) ?_
        refine WP.s .n (O.asg rfl) ?_
        refine WP.nil ?_
        refine QE.next ?_
        refine CW.seq ?_
        refine CW.region ?_
        refine WP.s .n (O.mv rfl) ?_
        refine WP.s .n (O.asg rfl) ?_
        refine WP.nil ?_
        refine QE.next ?_
        refine CW.seq ?_
        refine CW.seq ?_
        refine CW.region ?_
        refine WP.s .n (O.mv rfl) ?_
        refine WP.s .n (O.mv rfl) ?_
        refine WP.s .n (O.lt rfl rfl) ?_
        refine WP.nil ?_
        refine QE.next ?_
        refine CW.condD rfl (fun h_t40 => ?_) (fun h_t40 => ?_)
        · refine CW.region ?_
          refine WP.s .n (O.fa rfl fld79_1 rfl) ?_
          refine WP.s .n (OpOk.le (O.ld (p := kVal.is vL) rfl (mem_at 3 rfl) (Lens.snd (Lens.id _)) ty45 rfl) (val_ex _)) ?_
          refine WP.s .n (O.mv rfl) ?_
          refine WP.s .n (O.ixR (k := (kSl kC)) (xs := (gLs (matF a) i)) (n := (j : Int)) j rfl rfl (mem_at 2 rfl) Try.underlying45 ty42 rfl (by first | omega | (simp only [gRow_len, gDs_len, gLs_len]; omega) | (have := hq i (by omega); omega))) ?_
          refine WP.s .n (O.ldR j rfl (mem_at 2 rfl) (Lens.id _) rfl (y := ((gLs (matF a) i).getD j [])) (gd [] (by first | omega | (simp only [gRow_len, gDs_len, gLs_len]; omega) | (have := hq i (by omega); omega))) ty42 rfl) ?_
          refine WP.s .n (O.asg rfl) ?_
          refine WP.nil ?_
          refine QE.next ?_
          refine CW.seq ?_
          refine CW.draw (Γ := [.fr (VP.ex (.pointer (some ⟨b3, 0, none⟩))), .fr (VP.ex vD), .fr ((kInt .i64).is (k : Int)), .fr ((kInt .i64).is ((k : Int) + 1)), .fr (VP.pel vD ((((k : Int) + 1)).toNat * 2)), .fr (kC.is (uD (matF a) (k + 1))), .fr (kC.is (uE (matF a) k i j)), .fr (kC.is ((uD (matF a) (k + 1)) * (uE (matF a) k i j))), .fr (VP.ex v), .fr ((kInt .i64).is (k : Int)), .fr (VP.pel v (k * 2)), .fr (kC.is (uE (matF a) k i k)), .fr ((kSl kC).is ((gLs (matF a) i).getD j [])), .fr ((kInt .i64).is (k : Int)), .fr (VP.pim kC (uE (matF a) k j k)), .fr (kC.is (uE (matF a) k j k)), .fr (kC.is ((uE (matF a) k i k) * (uE (matF a) k j k))), .fr (kC.is (((uD (matF a) (k + 1)) * (uE (matF a) k i j)) - ((uE (matF a) k i k) * (uE (matF a) k j k)))), .al (fun b => OB.box b 24 kC 0)]) (lates := [false, false, false, false, false, false, false, false, false, false, false, false, false, false, false, false, false, false, false]) (by kernel_rfl) (Chk.of rfl (by kernel_rfl) rfl) (fun _ _ _ _ _ h => h) (fun q_ x_ h_ => ?_) (fun σ1 => ?_)
          · match q_, h_ with
            | 0, h_ => cases h_; exact Ob.f rfl .n fun N => (O.fa rfl fld79_0 rfl)
            | 1, h_ => cases h_; exact Ob.f rfl .n fun N => (OpOk.le (O.ld (p := kVal.is vD) rfl (mem_app N (mem_at 3 rfl)) (Lens.fst (Lens.id _)) ty42 rfl) (val_ex _))
            | 2, h_ => cases h_; exact Ob.f rfl .n fun N => (O.mv rfl)
            | 3, h_ => cases h_; exact Ob.f rfl .n fun N => (O.add rfl rfl (c := ((k : Int) + 1)) (w64 (by omega)))
            | 4, h_ => cases h_; exact Ob.f rfl .n fun N => (O.ixR (k := kC) (xs := (gDs (matF a) i)) (n := ((k : Int) + 1)) ((((k : Int) + 1)).toNat) rfl rfl (mem_app N (mem_at 4 rfl)) Try.underlying42 ty24 (by omega) (by first | omega | (simp only [gRow_len, gDs_len, gLs_len]; omega) | (have := hq i (by omega); omega)))
            | 5, h_ => cases h_; exact Ob.f rfl .n fun N => (O.ldR (k := kC) (xs := (gDs (matF a) i)) ((((k : Int) + 1)).toNat) rfl (mem_app N (mem_at 4 rfl)) (Lens.id _) (ho := rfl) (y := (uD (matF a) (k + 1))) (gDs_at (by omega)) ty24 rfl)
            | 6, h_ => cases h_; exact Ob.f rfl .n fun N => (O.ld rfl (mem_app N (mem_at 0 rfl)) (Lens.id _) ty24 rfl)
            | 7, h_ => cases h_; exact Ob.f rfl .n fun N => (O.fn fn20 (evs.l rfl (kC_Z (by first | assumption | exact (hE k (by omega) i j (by omega) (by omega)).sm (by omega) | exact (hE k (by omega) k k (by omega) (by omega)).sm (by omega) | exact (hE k (by omega) i k (by omega) (by omega)).sm (by omega) | exact (hE k (by omega) j k (by omega) (by omega)).sm (by omega) | exact (hE i (by omega) i i (by omega) (by omega)).sm (by omega) | exact (hD k (by omega)).sm (by omega) | exact (((hE k (by omega) k k (by omega) (by omega)).mul (hE k (by omega) i j (by omega) (by omega))).sub ((hE k (by omega) i k (by omega) (by omega)).mul (hE k (by omega) j k (by omega) (by omega)))).sm (by omega) | exact ((hE k (by omega) k k (by omega) (by omega)).mul (hE k (by omega) i j (by omega) (by omega))).sm (by omega) | exact ((hE k (by omega) i k (by omega) (by omega)).mul (hE k (by omega) j k (by omega) (by omega))).sm (by omega))) (evs.l rfl (kC_Z (by first | assumption | exact (hE k (by omega) i j (by omega) (by omega)).sm (by omega) | exact (hE k (by omega) k k (by omega) (by omega)).sm (by omega) | exact (hE k (by omega) i k (by omega) (by omega)).sm (by omega) | exact (hE k (by omega) j k (by omega) (by omega)).sm (by omega) | exact (hE i (by omega) i i (by omega) (by omega)).sm (by omega) | exact (hD k (by omega)).sm (by omega) | exact (((hE k (by omega) k k (by omega) (by omega)).mul (hE k (by omega) i j (by omega) (by omega))).sub ((hE k (by omega) i k (by omega) (by omega)).mul (hE k (by omega) j k (by omega) (by omega)))).sm (by omega) | exact ((hE k (by omega) k k (by omega) (by omega)).mul (hE k (by omega) i j (by omega) (by omega))).sm (by omega) | exact ((hE k (by omega) i k (by omega) (by omega)).mul (hE k (by omega) j k (by omega) (by omega))).sm (by omega))) evs.nil)) (c_zint_Mul (uD (matF a) (k + 1)) (uE (matF a) k i j)))
            | 8, h_ => cases h_; exact Ob.f rfl .n fun N => (O.mv rfl)
            | 9, h_ => cases h_; exact Ob.f rfl .n fun N => (O.mv rfl)
            | 10, h_ => cases h_; exact Ob.f rfl .n fun N => (O.ixR (k := kC) (xs := (gRow (matF a) i j)) (n := (k : Int)) k rfl rfl (mem_app N (mem_at 1 rfl)) Try.underlying42 ty24 rfl (by first | omega | (simp only [gRow_len, gDs_len, gLs_len]; omega) | (have := hq i (by omega); omega)))
            | 11, h_ => cases h_; exact Ob.f rfl .n fun N => (O.ldR (k := kC) (xs := (gRow (matF a) i j)) k rfl (mem_app N (mem_at 1 rfl)) (Lens.id _) (ho := rfl) (y := (uE (matF a) k i k)) (gRow_at (by omega)) ty24 rfl)
            | 12, h_ => cases h_; exact Ob.f rfl .n fun N => (O.mv rfl)
            | 13, h_ => cases h_; exact Ob.f rfl .n fun N => (O.mv rfl)
            | 14, h_ => cases h_; exact Ob.f rfl .n fun N => (O.ix k rfl rfl Try.underlying42 ty24 rfl (v := (uE (matF a) k j k)) (gLs_at (by omega) (by omega)))
            | 15, h_ => cases h_; exact Ob.f rfl .n fun N => (O.ldP rfl ty24)
            | 16, h_ => cases h_; exact Ob.f rfl .n fun N => (O.fn fn20 (evs.l rfl (kC_Z (by first | assumption | exact (hE k (by omega) i j (by omega) (by omega)).sm (by omega) | exact (hE k (by omega) k k (by omega) (by omega)).sm (by omega) | exact (hE k (by omega) i k (by omega) (by omega)).sm (by omega) | exact (hE k (by omega) j k (by omega) (by omega)).sm (by omega) | exact (hE i (by omega) i i (by omega) (by omega)).sm (by omega) | exact (hD k (by omega)).sm (by omega) | exact (((hE k (by omega) k k (by omega) (by omega)).mul (hE k (by omega) i j (by omega) (by omega))).sub ((hE k (by omega) i k (by omega) (by omega)).mul (hE k (by omega) j k (by omega) (by omega)))).sm (by omega) | exact ((hE k (by omega) k k (by omega) (by omega)).mul (hE k (by omega) i j (by omega) (by omega))).sm (by omega) | exact ((hE k (by omega) i k (by omega) (by omega)).mul (hE k (by omega) j k (by omega) (by omega))).sm (by omega))) (evs.l rfl (kC_Z (by first | assumption | exact (hE k (by omega) i j (by omega) (by omega)).sm (by omega) | exact (hE k (by omega) k k (by omega) (by omega)).sm (by omega) | exact (hE k (by omega) i k (by omega) (by omega)).sm (by omega) | exact (hE k (by omega) j k (by omega) (by omega)).sm (by omega) | exact (hE i (by omega) i i (by omega) (by omega)).sm (by omega) | exact (hD k (by omega)).sm (by omega) | exact (((hE k (by omega) k k (by omega) (by omega)).mul (hE k (by omega) i j (by omega) (by omega))).sub ((hE k (by omega) i k (by omega) (by omega)).mul (hE k (by omega) j k (by omega) (by omega)))).sm (by omega) | exact ((hE k (by omega) k k (by omega) (by omega)).mul (hE k (by omega) i j (by omega) (by omega))).sm (by omega) | exact ((hE k (by omega) i k (by omega) (by omega)).mul (hE k (by omega) j k (by omega) (by omega))).sm (by omega))) evs.nil)) (c_zint_Mul (uE (matF a) k i k) (uE (matF a) k j k)))
            | 17, h_ => cases h_; exact Ob.f rfl .n fun N => (O.fn fn19 (evs.l rfl (kC_Z (by first | assumption | exact (hE k (by omega) i j (by omega) (by omega)).sm (by omega) | exact (hE k (by omega) k k (by omega) (by omega)).sm (by omega) | exact (hE k (by omega) i k (by omega) (by omega)).sm (by omega) | exact (hE k (by omega) j k (by omega) (by omega)).sm (by omega) | exact (hE i (by omega) i i (by omega) (by omega)).sm (by omega) | exact (hD k (by omega)).sm (by omega) | exact (((hE k (by omega) k k (by omega) (by omega)).mul (hE k (by omega) i j (by omega) (by omega))).sub ((hE k (by omega) i k (by omega) (by omega)).mul (hE k (by omega) j k (by omega) (by omega)))).sm (by omega) | exact ((hE k (by omega) k k (by omega) (by omega)).mul (hE k (by omega) i j (by omega) (by omega))).sm (by omega) | exact ((hE k (by omega) i k (by omega) (by omega)).mul (hE k (by omega) j k (by omega) (by omega))).sm (by omega))) (evs.l rfl (kC_Z (by first | assumption | exact (hE k (by omega) i j (by omega) (by omega)).sm (by omega) | exact (hE k (by omega) k k (by omega) (by omega)).sm (by omega) | exact (hE k (by omega) i k (by omega) (by omega)).sm (by omega) | exact (hE k (by omega) j k (by omega) (by omega)).sm (by omega) | exact (hE i (by omega) i i (by omega) (by omega)).sm (by omega) | exact (hD k (by omega)).sm (by omega) | exact (((hE k (by omega) k k (by omega) (by omega)).mul (hE k (by omega) i j (by omega) (by omega))).sub ((hE k (by omega) i k (by omega) (by omega)).mul (hE k (by omega) j k (by omega) (by omega)))).sm (by omega) | exact ((hE k (by omega) k k (by omega) (by omega)).mul (hE k (by omega) i j (by omega) (by omega))).sm (by omega) | exact ((hE k (by omega) i k (by omega) (by omega)).mul (hE k (by omega) j k (by omega) (by omega))).sm (by omega))) evs.nil)) (c_zint_Sub ((uD (matF a) (k + 1)) * (uE (matF a) k i j)) ((uE (matF a) k i k) * (uE (matF a) k j k))))
            | 18, h_ => cases h_; exact Ob.a rfl z24_C
            | n_ + 19, h_ => simp at h_
          refine WP.t .n (O.stW (l := kC) (u := ((uD (matF a) (k + 1)) * (uE (matF a) k i j)) - ((uE (matF a) k i k) * (uE (matF a) k j k))) 0 rfl rfl rfl ty24 rfl (VP.le_refl _)) ?_
          refine WP.nil ?_
          refine QE.next ?_
          refine CW.draw (Γ := [.fr (kC.is (((uD (matF a) (k + 1)) * (uE (matF a) k i j)) - ((uE (matF a) k i k) * (uE (matF a) k j k)))), .fr (VP.ex (.pointer (some ⟨b3, 0, none⟩))), .fr (VP.ex vD), .fr ((kInt .i64).is (k : Int)), .fr (VP.pel vD (k * 2)), .fr (kC.is (uD (matF a) k)), .fr (VP.tup [kC.is ((((uD (matF a) (k + 1)) * (uE (matF a) k i j)) - ((uE (matF a) k i k) * (uE (matF a) k j k))).fdiv (uD (matF a) k)), kC.is (if (uD (matF a) k) = 0 then 0 else (((uD (matF a) (k + 1)) * (uE (matF a) k i j)) - ((uE (matF a) k i k) * (uE (matF a) k j k))).fmod (uD (matF a) k)), (kInt .i64).is (if (uD (matF a) k) = 0 then 11 else 0)]), .fr (VP.tup [kC.is ((((uD (matF a) (k + 1)) * (uE (matF a) k i j)) - ((uE (matF a) k i k) * (uE (matF a) k j k))).fdiv (uD (matF a) k)), kC.is (if (uD (matF a) k) = 0 then 0 else (((uD (matF a) (k + 1)) * (uE (matF a) k i j)) - ((uE (matF a) k i k) * (uE (matF a) k j k))).fmod (uD (matF a) k)), (kInt .i64).is (if (uD (matF a) k) = 0 then 11 else 0)]), .fr (kC.is ((((uD (matF a) (k + 1)) * (uE (matF a) k i j)) - ((uE (matF a) k i k) * (uE (matF a) k j k))).fdiv (uD (matF a) k))), .lt (kC.is (if (uD (matF a) k) = 0 then 0 else (((uD (matF a) (k + 1)) * (uE (matF a) k i j)) - ((uE (matF a) k i k) * (uE (matF a) k j k))).fmod (uD (matF a) k))), .lt ((kInt .i64).is (if (uD (matF a) k) = 0 then 11 else 0))]) (lates := [false, false, false, false, false, false, false, false, false, true, true]) (by kernel_rfl) (Chk.of rfl (by kernel_rfl) rfl) (fun _ _ _ _ _ h => h) (fun q_ x_ h_ => ?_) (fun σ2 => ?_)
          · match q_, h_ with
            | 0, h_ => cases h_; exact Ob.f rfl .n fun N => (O.ld rfl (mem_app N (mem_at 0 rfl)) (Lens.id _) ty24 rfl)
            | 1, h_ => cases h_; exact Ob.f rfl .n fun N => (O.fa rfl fld79_0 rfl)
            | 2, h_ => cases h_; exact Ob.f rfl .n fun N => (OpOk.le (O.ld (p := kVal.is vD) rfl (mem_app N (mem_at 4 rfl)) (Lens.fst (Lens.id _)) ty42 rfl) (val_ex _))
            | 3, h_ => cases h_; exact Ob.f rfl .n fun N => (O.mv rfl)
            | 4, h_ => cases h_; exact Ob.f rfl .n fun N => (O.ixR (k := kC) (xs := (gDs (matF a) i)) (n := (k : Int)) k rfl rfl (mem_app N (mem_at 5 rfl)) Try.underlying42 ty24 rfl (by first | omega | (simp only [gRow_len, gDs_len, gLs_len]; omega) | (have := hq i (by omega); omega)))
            | 5, h_ => cases h_; exact Ob.f rfl .n fun N => (O.ldR (k := kC) (xs := (gDs (matF a) i)) k rfl (mem_app N (mem_at 5 rfl)) (Lens.id _) (ho := rfl) (y := (uD (matF a) k)) (gDs_at (by omega)) ty24 rfl)
            | 6, h_ => cases h_; exact Ob.f rfl .n fun N => (O.fn fn31 (evs.l rfl (kC_Z (by first | assumption | exact (hE k (by omega) i j (by omega) (by omega)).sm (by omega) | exact (hE k (by omega) k k (by omega) (by omega)).sm (by omega) | exact (hE k (by omega) i k (by omega) (by omega)).sm (by omega) | exact (hE k (by omega) j k (by omega) (by omega)).sm (by omega) | exact (hE i (by omega) i i (by omega) (by omega)).sm (by omega) | exact (hD k (by omega)).sm (by omega) | exact (((hE k (by omega) k k (by omega) (by omega)).mul (hE k (by omega) i j (by omega) (by omega))).sub ((hE k (by omega) i k (by omega) (by omega)).mul (hE k (by omega) j k (by omega) (by omega)))).sm (by omega) | exact ((hE k (by omega) k k (by omega) (by omega)).mul (hE k (by omega) i j (by omega) (by omega))).sm (by omega) | exact ((hE k (by omega) i k (by omega) (by omega)).mul (hE k (by omega) j k (by omega) (by omega))).sm (by omega))) (evs.l rfl (kC_Z (by first | assumption | exact (hE k (by omega) i j (by omega) (by omega)).sm (by omega) | exact (hE k (by omega) k k (by omega) (by omega)).sm (by omega) | exact (hE k (by omega) i k (by omega) (by omega)).sm (by omega) | exact (hE k (by omega) j k (by omega) (by omega)).sm (by omega) | exact (hE i (by omega) i i (by omega) (by omega)).sm (by omega) | exact (hD k (by omega)).sm (by omega) | exact (((hE k (by omega) k k (by omega) (by omega)).mul (hE k (by omega) i j (by omega) (by omega))).sub ((hE k (by omega) i k (by omega) (by omega)).mul (hE k (by omega) j k (by omega) (by omega)))).sm (by omega) | exact ((hE k (by omega) k k (by omega) (by omega)).mul (hE k (by omega) i j (by omega) (by omega))).sm (by omega) | exact ((hE k (by omega) i k (by omega) (by omega)).mul (hE k (by omega) j k (by omega) (by omega))).sm (by omega))) evs.nil)) (c_zint_Floor (((uD (matF a) (k + 1)) * (uE (matF a) k i j)) - ((uE (matF a) k i k) * (uE (matF a) k j k))) (uD (matF a) k)))
            | 7, h_ => cases h_; exact Ob.f rfl .n fun N => (O.mv rfl)
            | 8, h_ => cases h_; exact Ob.f rfl .n fun N => (O.ext rfl rfl)
            | 9, h_ => cases h_; exact Ob.l rfl .n (OV.ext rfl rfl)
            | 10, h_ => cases h_; exact Ob.l rfl .n (OV.ext rfl rfl)
            | n_ + 11, h_ => simp at h_
          refine WP.t .n (O.stW (l := kC) (u := (((uD (matF a) (k + 1)) * (uE (matF a) k i j)) - ((uE (matF a) k i k) * (uE (matF a) k j k))).fdiv (uD (matF a) k)) 1 rfl rfl rfl ty24 rfl (VP.le_refl _)) ?_
          refine WP.nil ?_
          refine QE.blkN ?_
          refine QE.next ?_
          refine CW.region ?_
          refine WP.s .n (O.add rfl rfl (c := ((k : Int) + 1)) (w64 (by omega))) ?_
          refine WP.s .n (O.mv rfl) ?_
          refine WP.nil ?_
          refine ST.obtold 1 rfl (OB.box_eq (y := (uE (matF a) (k + 1) i j)) (uE_succ _ k i j).symm) ?_
          exact QE.round2 (k + 1) p (by omega) (by omega) (Imp.cons rfl (Imp.cons rfl (Imp.cons rfl (Imp.cons rfl (Imp.cons rfl (Imp.cons rfl (Imp.cons rfl (Imp.cons rfl (Imp.cons rfl (Imp.consLe rfl (is_eq (y := (((k + 1) : Nat) : Int)) (by first | rfl | omega | assumption)) (Imp.cons rfl (Imp.cons rfl Imp.nil)))))))))))) (OImp.os (OS.skip (OS.keep (OS.keep (OS.keep (OS.keep (OS.keep (OS.keep OS.nil))))))))
        · refine CW.skip ?_
          refine QE.next ?_
          refine CW.seq ?_
          refine CW.draw (Γ := [.fr (VP.ex (.pointer (some ⟨b3, 0, none⟩))), .fr (VP.ex vD), .fr ((kInt .i64).is (k : Int)), .fr ((kInt .i64).is ((k : Int) + 1)), .fr (VP.pel vD ((((k : Int) + 1)).toNat * 2)), .fr (kC.is (uD (matF a) (k + 1))), .fr (kC.is (uE (matF a) k i j)), .fr (kC.is ((uD (matF a) (k + 1)) * (uE (matF a) k i j))), .fr (VP.ex v), .fr ((kInt .i64).is (k : Int)), .fr (VP.pel v (k * 2)), .fr (kC.is (uE (matF a) k i k)), .fr (VP.ex v), .fr ((kInt .i64).is (k : Int)), .fr (VP.pel v (k * 2)), .fr (kC.is (uE (matF a) k j k)), .fr (kC.is ((uE (matF a) k i k) * (uE (matF a) k j k))), .fr (kC.is (((uD (matF a) (k + 1)) * (uE (matF a) k i j)) - ((uE (matF a) k i k) * (uE (matF a) k j k)))), .al (fun b => OB.box b 24 kC 0)]) (lates := [false, false, false, false, false, false, false, false, false, false, false, false, false, false, false, false, false, false, false]) (by kernel_rfl) (Chk.of rfl (by kernel_rfl) rfl) (fun _ _ _ _ _ h => h) (fun q_ x_ h_ => ?_) (fun σ3 => ?_)
          · match q_, h_ with
            | 0, h_ => cases h_; exact Ob.f rfl .n fun N => (O.fa rfl fld79_0 rfl)
            | 1, h_ => cases h_; exact Ob.f rfl .n fun N => (OpOk.le (O.ld (p := kVal.is vD) rfl (mem_app N (mem_at 3 rfl)) (Lens.fst (Lens.id _)) ty42 rfl) (val_ex _))
            | 2, h_ => cases h_; exact Ob.f rfl .n fun N => (O.mv rfl)
            | 3, h_ => cases h_; exact Ob.f rfl .n fun N => (O.add rfl rfl (c := ((k : Int) + 1)) (w64 (by omega)))
            | 4, h_ => cases h_; exact Ob.f rfl .n fun N => (O.ixR (k := kC) (xs := (gDs (matF a) i)) (n := ((k : Int) + 1)) ((((k : Int) + 1)).toNat) rfl rfl (mem_app N (mem_at 4 rfl)) Try.underlying42 ty24 (by omega) (by first | omega | (simp only [gRow_len, gDs_len, gLs_len]; omega) | (have := hq i (by omega); omega)))
            | 5, h_ => cases h_; exact Ob.f rfl .n fun N => (O.ldR (k := kC) (xs := (gDs (matF a) i)) ((((k : Int) + 1)).toNat) rfl (mem_app N (mem_at 4 rfl)) (Lens.id _) (ho := rfl) (y := (uD (matF a) (k + 1))) (gDs_at (by omega)) ty24 rfl)
            | 6, h_ => cases h_; exact Ob.f rfl .n fun N => (O.ld rfl (mem_app N (mem_at 0 rfl)) (Lens.id _) ty24 rfl)
            | 7, h_ => cases h_; exact Ob.f rfl .n fun N => (O.fn fn20 (evs.l rfl (kC_Z (by first | assumption | exact (hE k (by omega) i j (by omega) (by omega)).sm (by omega) | exact (hE k (by omega) k k (by omega) (by omega)).sm (by omega) | exact (hE k (by omega) i k (by omega) (by omega)).sm (by omega) | exact (hE k (by omega) j k (by omega) (by omega)).sm (by omega) | exact (hE i (by omega) i i (by omega) (by omega)).sm (by omega) | exact (hD k (by omega)).sm (by omega) | exact (((hE k (by omega) k k (by omega) (by omega)).mul (hE k (by omega) i j (by omega) (by omega))).sub ((hE k (by omega) i k (by omega) (by omega)).mul (hE k (by omega) j k (by omega) (by omega)))).sm (by omega) | exact ((hE k (by omega) k k (by omega) (by omega)).mul (hE k (by omega) i j (by omega) (by omega))).sm (by omega) | exact ((hE k (by omega) i k (by omega) (by omega)).mul (hE k (by omega) j k (by omega) (by omega))).sm (by omega))) (evs.l rfl (kC_Z (by first | assumption | exact (hE k (by omega) i j (by omega) (by omega)).sm (by omega) | exact (hE k (by omega) k k (by omega) (by omega)).sm (by omega) | exact (hE k (by omega) i k (by omega) (by omega)).sm (by omega) | exact (hE k (by omega) j k (by omega) (by omega)).sm (by omega) | exact (hE i (by omega) i i (by omega) (by omega)).sm (by omega) | exact (hD k (by omega)).sm (by omega) | exact (((hE k (by omega) k k (by omega) (by omega)).mul (hE k (by omega) i j (by omega) (by omega))).sub ((hE k (by omega) i k (by omega) (by omega)).mul (hE k (by omega) j k (by omega) (by omega)))).sm (by omega) | exact ((hE k (by omega) k k (by omega) (by omega)).mul (hE k (by omega) i j (by omega) (by omega))).sm (by omega) | exact ((hE k (by omega) i k (by omega) (by omega)).mul (hE k (by omega) j k (by omega) (by omega))).sm (by omega))) evs.nil)) (c_zint_Mul (uD (matF a) (k + 1)) (uE (matF a) k i j)))
            | 8, h_ => cases h_; exact Ob.f rfl .n fun N => (O.mv rfl)
            | 9, h_ => cases h_; exact Ob.f rfl .n fun N => (O.mv rfl)
            | 10, h_ => cases h_; exact Ob.f rfl .n fun N => (O.ixR (k := kC) (xs := (gRow (matF a) i j)) (n := (k : Int)) k rfl rfl (mem_app N (mem_at 1 rfl)) Try.underlying42 ty24 rfl (by first | omega | (simp only [gRow_len, gDs_len, gLs_len]; omega) | (have := hq i (by omega); omega)))
            | 11, h_ => cases h_; exact Ob.f rfl .n fun N => (O.ldR (k := kC) (xs := (gRow (matF a) i j)) k rfl (mem_app N (mem_at 1 rfl)) (Lens.id _) (ho := rfl) (y := (uE (matF a) k i k)) (gRow_at (by omega)) ty24 rfl)
            | 12, h_ => cases h_; exact Ob.f rfl .n fun N => (O.mv rfl)
            | 13, h_ => cases h_; exact Ob.f rfl .n fun N => (O.mv rfl)
            | 14, h_ => cases h_; exact Ob.f rfl .n fun N => (O.ixR (k := kC) (xs := (gRow (matF a) i j)) (n := (k : Int)) k rfl rfl (mem_app N (mem_at 1 rfl)) Try.underlying42 ty24 rfl (by first | omega | (simp only [gRow_len, gDs_len, gLs_len]; omega) | (have := hq i (by omega); omega)))
            | 15, h_ => cases h_; exact Ob.f rfl .n fun N => (O.ldR (k := kC) (xs := (gRow (matF a) i j)) k rfl (mem_app N (mem_at 1 rfl)) (Lens.id _) (ho := rfl) (y := (uE (matF a) k j k)) (by rw [show j = i by omega]; exact gRow_at (by omega)) ty24 rfl)
            | 16, h_ => cases h_; exact Ob.f rfl .n fun N => (O.fn fn20 (evs.l rfl (kC_Z (by first | assumption | exact (hE k (by omega) i j (by omega) (by omega)).sm (by omega) | exact (hE k (by omega) k k (by omega) (by omega)).sm (by omega) | exact (hE k (by omega) i k (by omega) (by omega)).sm (by omega) | exact (hE k (by omega) j k (by omega) (by omega)).sm (by omega) | exact (hE i (by omega) i i (by omega) (by omega)).sm (by omega) | exact (hD k (by omega)).sm (by omega) | exact (((hE k (by omega) k k (by omega) (by omega)).mul (hE k (by omega) i j (by omega) (by omega))).sub ((hE k (by omega) i k (by omega) (by omega)).mul (hE k (by omega) j k (by omega) (by omega)))).sm (by omega) | exact ((hE k (by omega) k k (by omega) (by omega)).mul (hE k (by omega) i j (by omega) (by omega))).sm (by omega) | exact ((hE k (by omega) i k (by omega) (by omega)).mul (hE k (by omega) j k (by omega) (by omega))).sm (by omega))) (evs.l rfl (kC_Z (by first | assumption | exact (hE k (by omega) i j (by omega) (by omega)).sm (by omega) | exact (hE k (by omega) k k (by omega) (by omega)).sm (by omega) | exact (hE k (by omega) i k (by omega) (by omega)).sm (by omega) | exact (hE k (by omega) j k (by omega) (by omega)).sm (by omega) | exact (hE i (by omega) i i (by omega) (by omega)).sm (by omega) | exact (hD k (by omega)).sm (by omega) | exact (((hE k (by omega) k k (by omega) (by omega)).mul (hE k (by omega) i j (by omega) (by omega))).sub ((hE k (by omega) i k (by omega) (by omega)).mul (hE k (by omega) j k (by omega) (by omega)))).sm (by omega) | exact ((hE k (by omega) k k (by omega) (by omega)).mul (hE k (by omega) i j (by omega) (by omega))).sm (by omega) | exact ((hE k (by omega) i k (by omega) (by omega)).mul (hE k (by omega) j k (by omega) (by omega))).sm (by omega))) evs.nil)) (c_zint_Mul (uE (matF a) k i k) (uE (matF a) k j k)))
            | 17, h_ => cases h_; exact Ob.f rfl .n fun N => (O.fn fn19 (evs.l rfl (kC_Z (by first | assumption | exact (hE k (by omega) i j (by omega) (by omega)).sm (by omega) | exact (hE k (by omega) k k (by omega) (by omega)).sm (by omega) | exact (hE k (by omega) i k (by omega) (by omega)).sm (by omega) | exact (hE k (by omega) j k (by omega) (by omega)).sm (by omega) | exact (hE i (by omega) i i (by omega) (by omega)).sm (by omega) | exact (hD k (by omega)).sm (by omega) | exact (((hE k (by omega) k k (by omega) (by omega)).mul (hE k (by omega) i j (by omega) (by omega))).sub ((hE k (by omega) i k (by omega) (by omega)).mul (hE k (by omega) j k (by omega) (by omega)))).sm (by omega) | exact ((hE k (by omega) k k (by omega) (by omega)).mul (hE k (by omega) i j (by omega) (by omega))).sm (by omega) | exact ((hE k (by omega) i k (by omega) (by omega)).mul (hE k (by omega) j k (by omega) (by omega))).sm (by omega))) (evs.l rfl (kC_Z (by first | assumption | exact (hE k (by omega) i j (by omega) (by omega)).sm (by omega) | exact (hE k (by omega) k k (by omega) (by omega)).sm (by omega) | exact (hE k (by omega) i k (by omega) (by omega)).sm (by omega) | exact (hE k (by omega) j k (by omega) (by omega)).sm (by omega) | exact (hE i (by omega) i i (by omega) (by omega)).sm (by omega) | exact (hD k (by omega)).sm (by omega) | exact (((hE k (by omega) k k (by omega) (by omega)).mul (hE k (by omega) i j (by omega) (by omega))).sub ((hE k (by omega) i k (by omega) (by omega)).mul (hE k (by omega) j k (by omega) (by omega)))).sm (by omega) | exact ((hE k (by omega) k k (by omega) (by omega)).mul (hE k (by omega) i j (by omega) (by omega))).sm (by omega) | exact ((hE k (by omega) i k (by omega) (by omega)).mul (hE k (by omega) j k (by omega) (by omega))).sm (by omega))) evs.nil)) (c_zint_Sub ((uD (matF a) (k + 1)) * (uE (matF a) k i j)) ((uE (matF a) k i k) * (uE (matF a) k j k))))
            | 18, h_ => cases h_; exact Ob.a rfl z24_C
            | n_ + 19, h_ => simp at h_
          refine WP.t .n (O.stW (l := kC) (u := ((uD (matF a) (k + 1)) * (uE (matF a) k i j)) - ((uE (matF a) k i k) * (uE (matF a) k j k))) 0 rfl rfl rfl ty24 rfl (VP.le_refl _)) ?_
          refine WP.nil ?_
          refine QE.next ?_
          refine CW.draw (Γ := [.fr (kC.is (((uD (matF a) (k + 1)) * (uE (matF a) k i j)) - ((uE (matF a) k i k) * (uE (matF a) k j k)))), .fr (VP.ex (.pointer (some ⟨b3, 0, none⟩))), .fr (VP.ex vD), .fr ((kInt .i64).is (k : Int)), .fr (VP.pel vD (k * 2)), .fr (kC.is (uD (matF a) k)), .fr (VP.tup [kC.is ((((uD (matF a) (k + 1)) * (uE (matF a) k i j)) - ((uE (matF a) k i k) * (uE (matF a) k j k))).fdiv (uD (matF a) k)), kC.is (if (uD (matF a) k) = 0 then 0 else (((uD (matF a) (k + 1)) * (uE (matF a) k i j)) - ((uE (matF a) k i k) * (uE (matF a) k j k))).fmod (uD (matF a) k)), (kInt .i64).is (if (uD (matF a) k) = 0 then 11 else 0)]), .fr (VP.tup [kC.is ((((uD (matF a) (k + 1)) * (uE (matF a) k i j)) - ((uE (matF a) k i k) * (uE (matF a) k j k))).fdiv (uD (matF a) k)), kC.is (if (uD (matF a) k) = 0 then 0 else (((uD (matF a) (k + 1)) * (uE (matF a) k i j)) - ((uE (matF a) k i k) * (uE (matF a) k j k))).fmod (uD (matF a) k)), (kInt .i64).is (if (uD (matF a) k) = 0 then 11 else 0)]), .fr (kC.is ((((uD (matF a) (k + 1)) * (uE (matF a) k i j)) - ((uE (matF a) k i k) * (uE (matF a) k j k))).fdiv (uD (matF a) k))), .lt (kC.is (if (uD (matF a) k) = 0 then 0 else (((uD (matF a) (k + 1)) * (uE (matF a) k i j)) - ((uE (matF a) k i k) * (uE (matF a) k j k))).fmod (uD (matF a) k))), .lt ((kInt .i64).is (if (uD (matF a) k) = 0 then 11 else 0))]) (lates := [false, false, false, false, false, false, false, false, false, true, true]) (by kernel_rfl) (Chk.of rfl (by kernel_rfl) rfl) (fun _ _ _ _ _ h => h) (fun q_ x_ h_ => ?_) (fun σ4 => ?_)
          · match q_, h_ with
            | 0, h_ => cases h_; exact Ob.f rfl .n fun N => (O.ld rfl (mem_app N (mem_at 0 rfl)) (Lens.id _) ty24 rfl)
            | 1, h_ => cases h_; exact Ob.f rfl .n fun N => (O.fa rfl fld79_0 rfl)
            | 2, h_ => cases h_; exact Ob.f rfl .n fun N => (OpOk.le (O.ld (p := kVal.is vD) rfl (mem_app N (mem_at 4 rfl)) (Lens.fst (Lens.id _)) ty42 rfl) (val_ex _))
            | 3, h_ => cases h_; exact Ob.f rfl .n fun N => (O.mv rfl)
            | 4, h_ => cases h_; exact Ob.f rfl .n fun N => (O.ixR (k := kC) (xs := (gDs (matF a) i)) (n := (k : Int)) k rfl rfl (mem_app N (mem_at 5 rfl)) Try.underlying42 ty24 rfl (by first | omega | (simp only [gRow_len, gDs_len, gLs_len]; omega) | (have := hq i (by omega); omega)))
            | 5, h_ => cases h_; exact Ob.f rfl .n fun N => (O.ldR (k := kC) (xs := (gDs (matF a) i)) k rfl (mem_app N (mem_at 5 rfl)) (Lens.id _) (ho := rfl) (y := (uD (matF a) k)) (gDs_at (by omega)) ty24 rfl)
            | 6, h_ => cases h_; exact Ob.f rfl .n fun N => (O.fn fn31 (evs.l rfl (kC_Z (by first | assumption | exact (hE k (by omega) i j (by omega) (by omega)).sm (by omega) | exact (hE k (by omega) k k (by omega) (by omega)).sm (by omega) | exact (hE k (by omega) i k (by omega) (by omega)).sm (by omega) | exact (hE k (by omega) j k (by omega) (by omega)).sm (by omega) | exact (hE i (by omega) i i (by omega) (by omega)).sm (by omega) | exact (hD k (by omega)).sm (by omega) | exact (((hE k (by omega) k k (by omega) (by omega)).mul (hE k (by omega) i j (by omega) (by omega))).sub ((hE k (by omega) i k (by omega) (by omega)).mul (hE k (by omega) j k (by omega) (by omega)))).sm (by omega) | exact ((hE k (by omega) k k (by omega) (by omega)).mul (hE k (by omega) i j (by omega) (by omega))).sm (by omega) | exact ((hE k (by omega) i k (by omega) (by omega)).mul (hE k (by omega) j k (by omega) (by omega))).sm (by omega))) (evs.l rfl (kC_Z (by first | assumption | exact (hE k (by omega) i j (by omega) (by omega)).sm (by omega) | exact (hE k (by omega) k k (by omega) (by omega)).sm (by omega) | exact (hE k (by omega) i k (by omega) (by omega)).sm (by omega) | exact (hE k (by omega) j k (by omega) (by omega)).sm (by omega) | exact (hE i (by omega) i i (by omega) (by omega)).sm (by omega) | exact (hD k (by omega)).sm (by omega) | exact (((hE k (by omega) k k (by omega) (by omega)).mul (hE k (by omega) i j (by omega) (by omega))).sub ((hE k (by omega) i k (by omega) (by omega)).mul (hE k (by omega) j k (by omega) (by omega)))).sm (by omega) | exact ((hE k (by omega) k k (by omega) (by omega)).mul (hE k (by omega) i j (by omega) (by omega))).sm (by omega) | exact ((hE k (by omega) i k (by omega) (by omega)).mul (hE k (by omega) j k (by omega) (by omega))).sm (by omega))) evs.nil)) (c_zint_Floor (((uD (matF a) (k + 1)) * (uE (matF a) k i j)) - ((uE (matF a) k i k) * (uE (matF a) k j k))) (uD (matF a) k)))
            | 7, h_ => cases h_; exact Ob.f rfl .n fun N => (O.mv rfl)
            | 8, h_ => cases h_; exact Ob.f rfl .n fun N => (O.ext rfl rfl)
            | 9, h_ => cases h_; exact Ob.l rfl .n (OV.ext rfl rfl)
            | 10, h_ => cases h_; exact Ob.l rfl .n (OV.ext rfl rfl)
            | n_ + 11, h_ => simp at h_
          refine WP.t .n (O.stW (l := kC) (u := (((uD (matF a) (k + 1)) * (uE (matF a) k i j)) - ((uE (matF a) k i k) * (uE (matF a) k j k))).fdiv (uD (matF a) k)) 1 rfl rfl rfl ty24 rfl (VP.le_refl _)) ?_
          refine WP.nil ?_
          refine QE.blkN ?_
          refine QE.next ?_
          refine CW.region ?_
          refine WP.s .n (O.add rfl rfl (c := ((k : Int) + 1)) (w64 (by omega))) ?_
          refine WP.s .n (O.mv rfl) ?_
          refine WP.nil ?_
          refine ST.obtold 1 rfl (OB.box_eq (y := (uE (matF a) (k + 1) i j)) (uE_succ _ k i j).symm) ?_
          exact QE.round2 (k + 1) p (by omega) (by omega) (Imp.cons rfl (Imp.cons rfl (Imp.cons rfl (Imp.cons rfl (Imp.cons rfl (Imp.cons rfl (Imp.cons rfl (Imp.cons rfl (Imp.cons rfl (Imp.consLe rfl (is_eq (y := (((k + 1) : Nat) : Int)) (by first | rfl | omega | assumption)) (Imp.cons rfl (Imp.cons rfl Imp.nil)))))))))))) (OImp.os (OS.skip (OS.keep (OS.keep (OS.keep (OS.keep (OS.keep (OS.keep OS.nil))))))))
      · refine CW.exit ?_
        refine QE.thenE ?_
        refine QE.thenE ?_
        refine QE.blkH ?_
        refine QE.next ?_
        refine CW.region ?_
        refine WP.s .n (O.mv rfl) ?_
        refine WP.s .n (O.ld rfl (mem_at 0 rfl) (Lens.id _) ty24 rfl) ?_
        refine WP.s .n (O.bs Try.underlying42 el24_C (evl.c rfl evl.n) rfl (by decide)) ?_
        refine WP.ap 1 .n rfl rfl rfl (VP.le_refl _) Try.underlying42 el24_C (by simp only [gRow_len, gDs_len, gLs_len, List.length_cons, List.length_nil]; omega) fun v5 => ?_
        refine WP.s .n (O.asg rfl) ?_
        refine WP.nil ?_
        refine QE.blkN ?_
        refine QE.next ?_
        refine CW.region ?_
        refine WP.s .n (O.mv rfl) ?_
        refine WP.s .n (O.add rfl rfl (c := ((j : Int) + 1)) (w64 (by omega))) ?_
        refine WP.s .n (O.asg rfl) ?_
        refine WP.nil ?_
        refine ST.obtold 1 rfl (OB.row_eq (ys := (gRow (matF a) i (j + 1))) (by rw [show k = j by omega]; exact gRow_app (matF a) i j)) ?_
        exact QE.round2 (j + 1) v5 (by omega) (by omega) (Imp.cons rfl (Imp.cons rfl (Imp.cons rfl (Imp.cons rfl (Imp.cons rfl (Imp.cons rfl (Imp.consLe rfl (is_eq (y := (((j + 1) : Nat) : Int)) (by first | rfl | omega | assumption)) (Imp.cons rfl (Imp.cons rfl Imp.nil))))))))) (OImp.os (OS.skip (OS.keep (OS.keep (OS.keep (OS.keep (OS.keep OS.nil)))))))
    · refine CW.exit ?_
      refine QE.thenE ?_
      refine QE.thenE ?_
      refine QE.blkH ?_
      refine QE.next ?_
      refine CW.seq ?_
      refine CW.seq ?_
      refine ST.obtold 0 rfl (OB.row_eq (ys := (gRow (matF a) i (i + 1))) (by rw [show j = i + 1 by omega])) ?_
      have hE := uE_Sz hs hz hP
      have hD := uD_Sz hs hz hP
      have hUi := hU i (by omega)
      refine CW.region ?_
      refine WP.s .n (O.mv rfl) ?_
      refine WP.s .n (O.mv rfl) ?_
      refine WP.s .n (O.ixR (k := kC) (xs := (gRow (matF a) i (i + 1))) (n := (i : Int)) i rfl rfl (mem_at 0 rfl) Try.underlying42 ty24 rfl (by first | omega | (simp only [gRow_len, gDs_len, gLs_len]; omega) | (have := hq i (by omega); omega))) ?_
      refine WP.s .n (O.ldR (k := kC) (xs := (gRow (matF a) i (i + 1))) i rfl (mem_at 0 rfl) (Lens.id _) (ho := rfl) (y := (uE (matF a) i i i)) (gRow_at (by omega)) ty24 rfl) ?_
      refine WP.s .n (O.fn fn18 (evs.l rfl (kC_Z (by first | assumption | exact (hE k (by omega) i j (by omega) (by omega)).sm (by omega) | exact (hE k (by omega) k k (by omega) (by omega)).sm (by omega) | exact (hE k (by omega) i k (by omega) (by omega)).sm (by omega) | exact (hE k (by omega) j k (by omega) (by omega)).sm (by omega) | exact (hE i (by omega) i i (by omega) (by omega)).sm (by omega) | exact (hD k (by omega)).sm (by omega) | exact (((hE k (by omega) k k (by omega) (by omega)).mul (hE k (by omega) i j (by omega) (by omega))).sub ((hE k (by omega) i k (by omega) (by omega)).mul (hE k (by omega) j k (by omega) (by omega)))).sm (by omega) | exact ((hE k (by omega) k k (by omega) (by omega)).mul (hE k (by omega) i j (by omega) (by omega))).sm (by omega) | exact ((hE k (by omega) i k (by omega) (by omega)).mul (hE k (by omega) j k (by omega) (by omega))).sm (by omega))) evs.nil) (c_zint_Sign (uE (matF a) i i i))) ?_
      refine WP.s .n (O.le rfl rfl) ?_
      refine WP.nil ?_
      refine QE.next ?_
      refine CW.condD rfl (fun h_t85 => ?_) (fun h_t85 => ?_)
      · refine CW.seq ?_
        refine CW.region ?_
        refine WP.s .n (O.bld lit79_pr_sl_C_sl_sl_C_ rfl evp.n (.nil _)) ?_
        refine WP.t .n (O.stW (l := (kPair (kSl kC) (kSl (kSl kC)))) (u := ([], [])) 4 rfl rfl rfl ty79 rfl (VP.le_refl _)) ?_
        refine WP.s .n (O.asg rfl) ?_
        refine WP.nil ?_
        refine QE.next ?_
        refine CW.ret ?_
        refine QE.thenR ?_
        refine QE.blkR ?_
        refine QE.thenR ?_
        refine QE.thenR ?_
        refine QE.blkR ?_
        refine QE.thenR ?_
        refine ST.obtold 4 rfl (OB.box_eq (y := (gsoV (matF a) a.length)) (gso_no (by omega) h_t85).2.symm) ?_
        refine ST.told 3 rfl (is_eq (y := (gOk (matF a) a.length)) (gso_no (by omega) h_t85).1.symm) ?_
        exact QE.done (.inl rfl) rfl (ResOk.c rfl (mem_at 4 rfl) ty79 (ResOk.t rfl ResOk.nil)) (OImp.sub (List.nil_sublist _)) ⟨rfl, rfl⟩
      · refine CW.skip ?_
        refine QE.next ?_
        refine CW.seq ?_
        refine CW.draw (Γ := [.fr (VP.ex (.pointer (some ⟨b3, 0, none⟩))), .fr (VP.ex vD), .fr (VP.ex v), .fr ((kInt .i64).is (i : Int)), .fr (VP.pel v (i * 2)), .fr (kC.is (uE (matF a) i i i)), .fr ((kSl kC).is [(uE (matF a) i i i)])]) (lates := [false, false, false, false, false, false, false]) (by kernel_rfl) (Chk.of rfl (by kernel_rfl) rfl) (fun _ _ _ _ _ h => h) (fun q_ x_ h_ => ?_) (fun σ5 => ?_)
        · match q_, h_ with
          | 0, h_ => cases h_; exact Ob.f rfl .n fun N => (O.fa rfl fld79_0 rfl)
          | 1, h_ => cases h_; exact Ob.f rfl .n fun N => (OpOk.le (O.ld (p := kVal.is vD) rfl (mem_app N (mem_at 2 rfl)) (Lens.fst (Lens.id _)) ty42 rfl) (val_ex _))
          | 2, h_ => cases h_; exact Ob.f rfl .n fun N => (O.mv rfl)
          | 3, h_ => cases h_; exact Ob.f rfl .n fun N => (O.mv rfl)
          | 4, h_ => cases h_; exact Ob.f rfl .n fun N => (O.ixR (k := kC) (xs := (gRow (matF a) i (i + 1))) (n := (i : Int)) i rfl rfl (mem_app N (mem_at 0 rfl)) Try.underlying42 ty24 rfl (by first | omega | (simp only [gRow_len, gDs_len, gLs_len]; omega) | (have := hq i (by omega); omega)))
          | 5, h_ => cases h_; exact Ob.f rfl .n fun N => (O.ldR (k := kC) (xs := (gRow (matF a) i (i + 1))) i rfl (mem_app N (mem_at 0 rfl)) (Lens.id _) (ho := rfl) (y := (uE (matF a) i i i)) (gRow_at (by omega)) ty24 rfl)
          | 6, h_ => cases h_; exact Ob.f rfl .n fun N => (O.bs Try.underlying42 el24_C (evl.c rfl evl.n) rfl (by decide))
          | n_ + 7, h_ => simp at h_
        refine WP.ap 3 .n rfl rfl rfl (VP.le_refl _) Try.underlying42 el24_C (by simp only [gRow_len, gDs_len, gLs_len, List.length_cons, List.length_nil]; omega) fun v6 => ?_
        refine WP.s .n (O.fa rfl fld79_0 rfl) ?_
        refine ST.rowcell 3 rfl fun hcell_ => ?_
        refine WP.t .n (O.st 2 rfl rfl (Lens.fst (Lens.id _)) ty42 rfl (ex_val (by first | rfl | assumption))) ?_
        refine WP.nil ?_
        refine QE.next ?_
        refine ST.freeze 0 rfl (.keep (i := 0) rfl (.keep (i := 2) rfl (.keep (i := 3) rfl (.keep (i := 4) rfl (.keep (i := 5) rfl (.hit (i := 6) rfl (.keep (i := 7) rfl (.keep (i := 16) rfl (.keep (i := 17) rfl (.keep (i := 20) rfl (.keep (i := 21) rfl (.keep (i := 22) rfl (.hit (i := 80) rfl (.keep (i := 81) rfl (.keep (i := 82) rfl (.keep (i := 83) rfl (.keep (i := 84) rfl (.keep (i := 85) rfl (.keep (i := 87) rfl (.keep (i := 88) rfl (.hit (i := 89) rfl (.keep (i := 90) rfl (.keep (i := 91) rfl (.keep (i := 92) rfl (.keep (i := 93) rfl (.keep (i := 94) rfl (.keep (i := 95) rfl .nil))))))))))))))))))))))))))) ?_
        refine CW.draw (Γ := [.fr (VP.ex (.pointer (some ⟨b3, 1, none⟩))), .fr (VP.ex vL), .fr ((kSl kC).is (gRow (matF a) i (i + 1))), .fr ((kInt .i64).is (i : Int)), .fr ((kInt .i64).is (i : Int)), .fr ((kSl kC).is ((gRow (matF a) i (i + 1)).take i)), .fr ((kSl (kSl kC)).is [((gRow (matF a) i (i + 1)).take i)])]) (lates := [false, false, false, false, false, false, false]) (by kernel_rfl) (Chk.of rfl (by kernel_rfl) rfl) (fun _ _ _ _ _ h => h) (fun q_ x_ h_ => ?_) (fun σ6 => ?_)
        · match q_, h_ with
          | 0, h_ => cases h_; exact Ob.f rfl .n fun N => (O.fa rfl fld79_1 rfl)
          | 1, h_ => cases h_; exact Ob.f rfl .n fun N => (OpOk.le (O.ld (p := kVal.is vL) rfl (mem_app N (mem_at 1 rfl)) (Lens.snd (Lens.id _)) ty45 rfl) (val_ex _))
          | 2, h_ => cases h_; exact Ob.f rfl .n fun N => (O.mv rfl)
          | 3, h_ => cases h_; exact Ob.f rfl .n fun N => (O.mv rfl)
          | 4, h_ => cases h_; exact Ob.f rfl .n fun N => (O.mv rfl)
          | 5, h_ => cases h_; exact Ob.f rfl .n fun N => (O.sl3 i rfl rfl rfl Try.underlying42 ty24 rfl rfl (by first | omega | (simp only [gRow_len, gDs_len, gLs_len]; omega) | (have := hq i (by omega); omega)))
          | 6, h_ => cases h_; exact Ob.f rfl .n fun N => (O.bs Try.underlying45 el42_sl_C (evl.c rfl evl.n) rfl (by decide))
          | n_ + 7, h_ => simp at h_
        refine WP.ap 0 .n rfl rfl rfl (VP.le_refl _) Try.underlying45 el42_sl_C (by simp only [gRow_len, gDs_len, gLs_len, List.length_cons, List.length_nil]; omega) fun v7 => ?_
        refine WP.s .n (O.fa rfl fld79_1 rfl) ?_
        refine ST.rowcell 0 rfl fun hcell_ => ?_
        refine WP.t .n (O.st 1 rfl rfl (Lens.snd (Lens.id _)) ty45 rfl (ex_val (by first | rfl | assumption))) ?_
        refine WP.nil ?_
        refine QE.blkN ?_
        refine QE.next ?_
        refine CW.region ?_
        refine WP.s .n (O.add rfl rfl (c := ((i : Int) + 1)) (w64 (by omega))) ?_
        refine WP.s .n (O.mv rfl) ?_
        refine WP.nil ?_
        refine ST.obtold 2 rfl (OB.row_eq (ys := (gDs (matF a) (i + 1))) (gDs_app (matF a) i)) ?_
        refine ST.obtold 0 rfl (OB.row_eq (ys := (gLs (matF a) (i + 1))) (by rw [gRow_take]; exact gLs_app (matF a) i)) ?_
        exact QE.round3 (i + 1) v6 v7 (by omega) ⟨by omega, posU_succ hP h_t85⟩ (Imp.cons rfl (Imp.cons rfl (Imp.cons rfl (Imp.cons rfl (Imp.cons rfl (Imp.consLe rfl (is_eq (y := (((i + 1) : Nat) : Int)) (by first | rfl | omega | assumption)) Imp.nil)))))) (OImp.refl _)
  · refine CW.exit ?_
    refine QE.thenE ?_
    refine QE.thenE ?_
    refine QE.blkH ?_
    refine QE.next ?_
    refine CW.seq ?_
    refine ST.freezeIn (k2 := (kPair (kSl kC) kVal)) ((gDs (matF a) i), vL) 2 1 rfl rfl (fun m_ cs_ h_ c_ => fz_fst m_ cs_ h_ c_) (.keep (i := 0) rfl (.keep (i := 2) rfl (.keep (i := 3) rfl (.keep (i := 4) rfl (.keep (i := 16) rfl (.keep (i := 17) rfl (.keep (i := 18) rfl .nil))))))) ?_
    refine ST.freezeIn (k2 := (kPair (kSl kC) (kSl (kSl kC)))) ((gDs (matF a) i), (gLs (matF a) i)) 0 0 rfl rfl (fun m_ cs_ h_ c_ => fz_snd m_ cs_ h_ c_) (.keep (i := 0) rfl (.keep (i := 2) rfl (.keep (i := 3) rfl (.keep (i := 4) rfl (.keep (i := 16) rfl (.keep (i := 17) rfl (.keep (i := 18) rfl .nil))))))) ?_
    have hib : i = a.length := by omega
    refine CW.region ?_
    refine WP.s .n (O.ld (p := (kPair (kSl kC) (kSl (kSl kC))).is ((gDs (matF a) i), (gLs (matF a) i))) rfl (mem_at 0 rfl) (Lens.id _) ty79 rfl) ?_
    refine WP.t .n (O.stW (l := (kPair (kSl kC) (kSl (kSl kC)))) (u := ((gDs (matF a) i), (gLs (matF a) i))) 1 rfl rfl rfl ty79 rfl (VP.le_refl _)) ?_
    refine WP.s .n (O.asg rfl) ?_
    refine WP.nil ?_
    refine QE.next ?_
    refine CW.ret ?_
    refine ST.obtold 1 rfl (OB.box_eq (y := (gsoV (matF a) a.length)) (by rw [hib]; rw [hib] at hP; exact (gso_yes hP).2.symm)) ?_
    refine ST.told 3 rfl (is_eq (y := (gOk (matF a) a.length)) (by rw [hib] at hP; exact (gso_yes hP).1.symm)) ?_
    exact QE.done (.inl rfl) rfl (ResOk.c rfl (mem_at 1 rfl) ty79 (ResOk.t rfl ResOk.nil)) (OImp.sub (List.nil_sublist _)) ⟨rfl, rfl⟩

set_option maxRecDepth 20000 in
set_option maxHeartbeats 1000000 in
theorem c_quad_Valid (a : List (List Int)) : Fn Try.prog 28 [(kSl (kSl kZ)).is a] ((kInt .i64).is (quadE a)) := by
  refine Con.enter Try.func28 rfl rfl fun m w => ?_
  refine CW.seq ?_
  refine CW.region ?_
  refine WP.s .n (O.asg rfl) ?_
  refine WP.nil ?_
  refine QE.next ?_
  refine CW.seq ?_
  refine CW.seq ?_
  refine CW.region ?_
  refine WP.s .n (O.mv rfl) ?_
  refine WP.s .n (O.fn fn42 (evs.c rfl evs.nil) (c_quad_shaped a)) ?_
  refine WP.s .n (O.asg rfl) ?_
  refine WP.nil ?_
  refine QE.next ?_
  refine CW.seq ?_
  refine CW.region ?_
  refine WP.s .n (O.mv rfl) ?_
  refine WP.s .n (O.ne rfl rfl) ?_
  refine WP.nil ?_
  refine QE.next ?_
  refine CW.condD rfl (fun h_t9 => ?_) (fun h_t9 => ?_)
  · refine CW.seq ?_
    refine CW.region ?_
    refine WP.s .n (O.mv rfl) ?_
    refine WP.s .n (O.asg rfl) ?_
    refine WP.nil ?_
    refine QE.next ?_
    refine CW.ret ?_
    refine QE.thenR ?_
    refine ST.told 2 rfl (is_eq (y := (quadE a)) (quadE_1 (by omega)).symm) ?_
    exact QE.done (.inl rfl) rfl (ResOk.t rfl ResOk.nil) (OImp.sub (List.nil_sublist _)) ⟨rfl, rfl⟩
  · refine CW.skip ?_
    refine QE.next ?_
    refine CW.seq ?_
    refine CW.seq ?_
    have hM := sqm_of (a := a) (by omega)
    refine CW.region ?_
    refine WP.s .n (O.mv rfl) ?_
    refine WP.s .n (O.fn fn43 (evs.c rfl evs.nil) (c_quad_data 256 a (by first | exact hM.z | exact hM.q | exact hM.s | exact hM.n | decide) (by first | exact hM.z | exact hM.q | exact hM.s | exact hM.n | decide) (by first | exact hM.z | exact hM.q | exact hM.s | exact hM.n | decide) (by first | exact hM.z | exact hM.q | exact hM.s | exact hM.n | decide) (by first | exact hM.z | exact hM.q | exact hM.s | exact hM.n | decide))) ?_
    refine WP.s .n (O.mv rfl) ?_
    refine WP.s .n (O.ext rfl rfl) ?_
    refine WP.s .n (O.ext rfl rfl) ?_
    refine WP.al .n z79_pr_sl_C_sl_sl_C_ fun b1 => ?_
    refine WP.t .n (O.stW (l := (kPair (kSl kC) (kSl (kSl kC)))) (u := gsoV (matF a) a.length) 0 rfl rfl rfl ty79 rfl (VP.le_refl _)) ?_
    refine WP.s .n (O.asg rfl) ?_
    refine WP.nil ?_
    refine QE.next ?_
    refine CW.seq ?_
    refine CW.region ?_
    refine WP.s .n (O.mv rfl) ?_
    refine WP.s .n (O.not rfl) ?_
    refine WP.nil ?_
    refine QE.next ?_
    refine CW.cond rfl (fun h_t17 => ?_) (fun h_t17 => ?_)
    · refine CW.seq ?_
      refine CW.region ?_
      refine WP.s .n (O.asg rfl) ?_
      refine WP.nil ?_
      refine QE.next ?_
      refine CW.ret ?_
      refine QE.thenR ?_
      refine ST.told 2 rfl (is_eq (y := (quadE a)) (quadE_2 (by omega) (by simpa using h_t17)).symm) ?_
      exact QE.done (.inl rfl) rfl (ResOk.t rfl ResOk.nil) (OImp.sub (List.nil_sublist _)) ⟨rfl, rfl⟩
    · refine CW.skip ?_
      refine QE.next ?_
      refine CW.seq ?_
      refine CW.region ?_
      refine WP.s .n (O.asg rfl) ?_
      refine WP.nil ?_
      refine QE.next ?_
      refine CW.ret ?_
      refine ST.told 2 rfl (is_eq (y := (quadE a)) (quadE_3 (by omega) (by simpa using h_t17)).symm) ?_
      exact QE.done (.inl rfl) rfl (ResOk.t rfl ResOk.nil) (OImp.sub (List.nil_sublist _)) ⟨rfl, rfl⟩

end Fw


/- Plain facts: products of rows as a form. -/
set_option linter.unusedVariables false
set_option linter.unusedSimpArgs false
set_option exponentiation.threshold 400
namespace Fw
open Go

theorem slslC_Z {xs : List (List Int)} (h : ∀ r ∈ xs, ∀ x ∈ r, Sm x) : VP.le ((kSl (kSl kC)).is xs) ((kSl (kSl kZ)).is xs) :=
  is_kd rfl fun m cs hx => sl_kd (f := fun r s => r = s ∧ ∀ x ∈ r, Sm x) (fun m cs r s hrs hr => by
    obtain ⟨rfl, h2⟩ := hrs
    exact sl_kd (f := fun x y => x = y ∧ Sm x) (fun m cs x y hxy hx => by obtain ⟨rfl, h4⟩ := hxy; exact kC_Zat h4 hx) (F2.same h2) hr) (F2.same h) hx
theorem SzM_mem {n b} (h : SzM n b) {r : List Int} (hr : r ∈ b) : SzL n r := by
  obtain ⟨i, hi, rfl⟩ := mem_getD [] hr
  exact h i
theorem SzM.sm {n b} (h : SzM n b) (hn : n ≤ 549755813888) : ∀ r ∈ b, ∀ x ∈ r, Sm x := fun r hr => (SzM_mem h hr).sm hn
theorem qv_1 {a x} (h : quadE a ≠ 0) : qvalV a x = 0 ∧ qvalE a x = quadE a := ⟨if_pos h, if_pos h⟩
theorem qv_2 {a : List (List Int)} {x : List Int} (h : ¬ quadE a ≠ 0) (hl : x.length ≠ a.length) : qvalV a x = 0 ∧ qvalE a x = 8 := by
  unfold qvalV qvalE; rw [if_neg h, if_neg h, if_neg hl, if_neg hl]; exact ⟨rfl, rfl⟩
theorem qv_3 {a : List (List Int)} {x : List Int} (h : ¬ quadE a ≠ 0) (hl : x.length = a.length) : qvalV a x = qval a x ∧ qvalE a x = 0 := by
  unfold qvalV qvalE; rw [if_neg h, if_neg h, if_pos hl, if_pos hl]; exact ⟨rfl, rfl⟩
end Fw


/- Values of forms; products of rows; QuadRows. -/
set_option linter.unusedVariables false
set_option linter.unusedSimpArgs false
set_option exponentiation.threshold 400
namespace Fw
open Go Go.Proofs

set_option maxRecDepth 20000 in
set_option maxHeartbeats 1000000 in
theorem c_quad_product (n : Nat) (a : List (List Int)) (x y : List Int) (ha : SzM 256 a) (hx : SzL n x) (hy : SzL n y) (hok : combOk x a) (hl : a.length ≤ 12) (hyl : y.length = (a.getD 0 []).length) (hc : y.length ≤ 12) (hn : n ≤ 4294967296) : Fn Try.prog 29 [(kSl (kSl kZ)).is a, (kSl kZ).is x, (kSl kZ).is y] (kC.is (dotV (combV x a) y)) := by
  refine Con.enter Try.func29 rfl rfl fun m w => ?_
  refine CW.seq ?_
  refine CW.region ?_
  refine WP.al .n z24_C fun b1 => ?_
  refine WP.nil ?_
  refine QE.next ?_
  refine CW.seq ?_
  refine CW.region ?_
  refine WP.s .n (O.mv rfl) ?_
  refine WP.s .n (O.mv rfl) ?_
  refine WP.s .n (O.fn fn44 (evs.c rfl (evs.c rfl evs.nil)) (c_mat_Combine (n + 256) x a (hx.up (by omega)) (ha.up (by omega)) (by omega))) ?_
  refine WP.s .n (O.mv rfl) ?_
  refine WP.s .n (O.ext rfl rfl) ?_
  refine WP.s .n (O.ext rfl rfl) ?_
  refine WP.s .n (O.asg rfl) ?_
  refine WP.s .n (O.asg rfl) ?_
  refine WP.nil ?_
  refine QE.next ?_
  refine CW.seq ?_
  refine ST.told 7 rfl (is_eq (y := (combV x a)) (comb_yes hok).1.symm) ?_
  have hC : SzL (n + 512) (combV x a) := (combV_Sz hx ha).up (by omega)
  have hll : (combV x a).length = y.length := by rw [combV_len, hyl]
  refine CW.region ?_
  refine WP.s .n (O.mv rfl) ?_
  refine WP.s .n (O.mv rfl) ?_
  refine WP.s .n (O.fn fn45 (evs.l rfl (slC_Z (by exact hC.sm (by omega))) (evs.c rfl evs.nil)) (c_mat_Dot (n + 512) (combV x a) y hC (hy.up (by omega)) (by rw [combV_len]; omega))) ?_
  refine ST.told (q := VP.tup [kC.is (dotV (combV x a) y), (kInt .i64).is 0]) 20 rfl (tup_le (tup_cons (is_eq (if_pos hll)) (tup_cons (is_eq (if_pos hll)) tup_nil))) ?_
  refine WP.s .n (O.mv rfl) ?_
  refine WP.s .n (O.ext rfl rfl) ?_
  refine WP.s .n (O.ext rfl rfl) ?_
  refine WP.al .n z24_C fun b2 => ?_
  refine WP.t .n (O.stW (l := kC) (u := dotV (combV x a) y) 0 rfl rfl rfl ty24 rfl (VP.le_refl _)) ?_
  refine WP.s .n (O.asg rfl) ?_
  refine WP.nil ?_
  refine QE.next ?_
  refine CW.seq ?_
  refine CW.region ?_
  refine WP.s .n (O.ld rfl (mem_at 0 rfl) (Lens.id _) ty24 rfl) ?_
  refine WP.t .n (O.stW (l := kC) (u := dotV (combV x a) y) 1 rfl rfl rfl ty24 rfl (VP.le_refl _)) ?_
  refine WP.nil ?_
  refine QE.next ?_
  refine CW.ret ?_
  exact QE.done (.inl rfl) rfl (ResOk.c rfl (mem_at 1 rfl) ty24 ResOk.nil) (OImp.sub (List.nil_sublist _)) ⟨rfl, rfl⟩

set_option maxRecDepth 20000 in
set_option maxHeartbeats 1000000 in
theorem c_quad_Value (n : Nat) (a : List (List Int)) (x : List Int) (hx : SzL n x) (hn : n ≤ 4294967296) : Fn Try.prog 12 [(kSl (kSl kZ)).is a, (kSl kZ).is x] (VP.tup [kC.is (qvalV a x), (kInt .i64).is (qvalE a x)]) := by
  refine Con.enter Try.func12 rfl rfl fun m w => ?_
  refine CW.seq ?_
  refine CW.region ?_
  refine WP.al .n z24_C fun b1 => ?_
  refine WP.s .n (O.asg rfl) ?_
  refine WP.nil ?_
  refine QE.next ?_
  refine CW.seq ?_
  refine CW.seq ?_
  refine CW.region ?_
  refine WP.s .n (O.mv rfl) ?_
  refine WP.s .n (O.fn fn28 (evs.c rfl evs.nil) (c_quad_Valid a)) ?_
  refine WP.s .n (O.asg rfl) ?_
  refine WP.nil ?_
  refine QE.next ?_
  refine CW.seq ?_
  refine CW.region ?_
  refine WP.s .n (O.mv rfl) ?_
  refine WP.s .n (O.ne rfl rfl) ?_
  refine WP.nil ?_
  refine QE.next ?_
  refine CW.condD rfl (fun h_t10 => ?_) (fun h_t10 => ?_)
  · refine CW.seq ?_
    refine CW.region ?_
    refine WP.s .n (O.bld lit24_C rfl evp.n (.nil _)) ?_
    refine WP.s .n (O.mv rfl) ?_
    refine WP.t .n (O.stW (l := kC) (u := 0) 0 rfl rfl rfl ty24 rfl (VP.le_refl _)) ?_
    refine WP.s .n (O.asg rfl) ?_
    refine WP.nil ?_
    refine QE.next ?_
    refine CW.ret ?_
    refine QE.thenR ?_
    refine ST.obtold 0 rfl (OB.box_eq (y := (qvalV a x)) (qv_1 h_t10).1.symm) ?_
    refine ST.told 5 rfl (is_eq (y := (qvalE a x)) (qv_1 h_t10).2.symm) ?_
    exact QE.done (.inl rfl) rfl (ResOk.c rfl (mem_at 0 rfl) ty24 (ResOk.t rfl ResOk.nil)) (OImp.sub (List.nil_sublist _)) ⟨rfl, rfl⟩
  · refine CW.skip ?_
    refine QE.next ?_
    refine CW.seq ?_
    refine CW.seq ?_
    refine CW.region ?_
    refine WP.s .n (O.mv rfl) ?_
    refine WP.s .n (O.lenS rfl Try.underlying42) ?_
    refine WP.s .n (O.mv rfl) ?_
    refine WP.s .n (O.lenS rfl Try.underlying45) ?_
    refine WP.s .n (O.ne rfl rfl) ?_
    refine WP.nil ?_
    refine QE.next ?_
    refine CW.condD rfl (fun h_t17 => ?_) (fun h_t17 => ?_)
    · refine CW.seq ?_
      refine CW.region ?_
      refine WP.s .n (O.bld lit24_C rfl evp.n (.nil _)) ?_
      refine WP.t .n (O.stW (l := kC) (u := 0) 0 rfl rfl rfl ty24 rfl (VP.le_refl _)) ?_
      refine WP.s .n (O.asg rfl) ?_
      refine WP.nil ?_
      refine QE.next ?_
      refine CW.ret ?_
      refine QE.thenR ?_
      refine ST.obtold 0 rfl (OB.box_eq (y := (qvalV a x)) (qv_2 h_t10 (by omega)).1.symm) ?_
      refine ST.told 5 rfl (is_eq (y := (qvalE a x)) (qv_2 h_t10 (by omega)).2.symm) ?_
      exact QE.done (.inl rfl) rfl (ResOk.c rfl (mem_at 0 rfl) ty24 (ResOk.t rfl ResOk.nil)) (OImp.sub (List.nil_sublist _)) ⟨rfl, rfl⟩
    · refine CW.skip ?_
      refine QE.next ?_
      refine CW.seq ?_
      have hM := (quad_ok (a := a) (by omega)).1
      refine CW.region ?_
      refine WP.s .n (O.mv rfl) ?_
      refine WP.s .n (O.mv rfl) ?_
      refine WP.s .n (O.mv rfl) ?_
      refine WP.s .n (O.fn fn29 (evs.c rfl (evs.c rfl (evs.c rfl evs.nil))) (c_quad_product n a x x (by first | assumption | exact hM.z | exact hM.n | exact ⟨sqm_rb hM, by omega⟩ | (rw [hM.q 0 hM.n0]; omega) | (have := hM.n; omega)) (by first | assumption | exact hM.z | exact hM.n | exact ⟨sqm_rb hM, by omega⟩ | (rw [hM.q 0 hM.n0]; omega) | (have := hM.n; omega)) (by first | assumption | exact hM.z | exact hM.n | exact ⟨sqm_rb hM, by omega⟩ | (rw [hM.q 0 hM.n0]; omega) | (have := hM.n; omega)) (by first | assumption | exact hM.z | exact hM.n | exact ⟨sqm_rb hM, by omega⟩ | (rw [hM.q 0 hM.n0]; omega) | (have := hM.n; omega)) (by first | assumption | exact hM.z | exact hM.n | exact ⟨sqm_rb hM, by omega⟩ | (rw [hM.q 0 hM.n0]; omega) | (have := hM.n; omega)) (by first | assumption | exact hM.z | exact hM.n | exact ⟨sqm_rb hM, by omega⟩ | (rw [hM.q 0 hM.n0]; omega) | (have := hM.n; omega)) (by first | assumption | exact hM.z | exact hM.n | exact ⟨sqm_rb hM, by omega⟩ | (rw [hM.q 0 hM.n0]; omega) | (have := hM.n; omega)) (by first | assumption | exact hM.z | exact hM.n | exact ⟨sqm_rb hM, by omega⟩ | (rw [hM.q 0 hM.n0]; omega) | (have := hM.n; omega)))) ?_
      refine WP.t .n (O.stW (l := kC) (u := dotV (combV x a) x) 0 rfl rfl rfl ty24 rfl (VP.le_refl _)) ?_
      refine WP.s .n (O.asg rfl) ?_
      refine WP.nil ?_
      refine QE.next ?_
      refine CW.ret ?_
      refine ST.obtold 0 rfl (OB.box_eq (y := (qvalV a x)) (qv_3 h_t10 (by omega)).1.symm) ?_
      refine ST.told 5 rfl (is_eq (y := (qvalE a x)) (qv_3 h_t10 (by omega)).2.symm) ?_
      exact QE.done (.inl rfl) rfl (ResOk.c rfl (mem_at 0 rfl) ty24 (ResOk.t rfl ResOk.nil)) (OImp.sub (List.nil_sublist _)) ⟨rfl, rfl⟩

set_option maxRecDepth 20000 in
set_option maxHeartbeats 1000000 in
theorem c_law22_six  : Fn Try.prog 13 [] ((kSl (kSl kC)).is [[2, 1], [1, 2]]) := by
  refine Con.enter Try.func13 rfl rfl fun m w => ?_
  refine CW.seq ?_
  refine CW.region ?_
  refine WP.s .n (O.asg rfl) ?_
  refine WP.nil ?_
  refine QE.next ?_
  refine CW.seq ?_
  refine CW.region ?_
  refine WP.s .n (O.asg rfl) ?_
  refine WP.nil ?_
  refine QE.next ?_
  refine CW.seq ?_
  refine CW.region ?_
  refine WP.s .n (O.asg rfl) ?_
  refine WP.s .n (O.asg rfl) ?_
  refine WP.nil ?_
  refine QE.next ?_
  refine CW.seq ?_
  refine CW.region ?_
  refine WP.s .n (O.mv rfl) ?_
  refine WP.s .n (O.fn fn11 (evs.l rfl (i64_int (by omega)) evs.nil) (c_zint_Of 2)) ?_
  refine WP.s .n (O.fn fn11 (evs.l rfl (i64_int (by omega)) evs.nil) (c_zint_Of 1)) ?_
  refine WP.s .n (O.bs Try.underlying42 el24_C (evl.c rfl (evl.c rfl evl.n)) rfl (by decide)) ?_
  refine ST.nilrow 24 kC ?_
  refine WP.ap 0 .n rfl rfl rfl (VP.le_refl _) Try.underlying42 el24_C (by simp) fun v1 => ?_
  refine WP.s .n (O.asg rfl) ?_
  refine WP.nil ?_
  refine QE.next ?_
  refine CW.seq ?_
  refine CW.region ?_
  refine WP.s .n (O.mv rfl) ?_
  refine WP.s .n (O.fn fn11 (evs.l rfl (i64_int (by omega)) evs.nil) (c_zint_Of 1)) ?_
  refine WP.s .n (O.fn fn11 (evs.l rfl (i64_int (by omega)) evs.nil) (c_zint_Of 2)) ?_
  refine WP.s .n (O.bs Try.underlying42 el24_C (evl.c rfl (evl.c rfl evl.n)) rfl (by decide)) ?_
  refine ST.nilrow 24 kC ?_
  refine WP.ap 0 .n rfl rfl rfl (VP.le_refl _) Try.underlying42 el24_C (by simp) fun v2 => ?_
  refine WP.s .n (O.asg rfl) ?_
  refine WP.nil ?_
  refine QE.next ?_
  refine CW.seq ?_
  refine ST.freeze 1 rfl (.keep (i := 0) rfl (.keep (i := 1) rfl (.hit (i := 2) rfl (.keep (i := 3) rfl (.keep (i := 4) rfl (.keep (i := 5) rfl (.keep (i := 6) rfl (.keep (i := 7) rfl (.hit (i := 8) rfl (.keep (i := 9) rfl (.keep (i := 10) rfl (.keep (i := 11) rfl (.keep (i := 12) rfl (.keep (i := 13) rfl .nil)))))))))))))) ?_
  refine ST.freeze 0 rfl (.keep (i := 0) rfl (.keep (i := 1) rfl (.keep (i := 2) rfl (.hit (i := 3) rfl (.keep (i := 4) rfl (.keep (i := 5) rfl (.keep (i := 6) rfl (.keep (i := 7) rfl (.keep (i := 8) rfl (.keep (i := 9) rfl (.keep (i := 10) rfl (.keep (i := 11) rfl (.keep (i := 12) rfl (.hit (i := 13) rfl .nil)))))))))))))) ?_
  refine CW.region ?_
  refine WP.s .n (O.mv rfl) ?_
  refine WP.s .n (O.mv rfl) ?_
  refine WP.s .n (O.mv rfl) ?_
  refine WP.s .n (O.bs Try.underlying45 el42_sl_C (evl.c rfl (evl.c rfl evl.n)) rfl (by decide)) ?_
  refine ST.nilrow 42 (kSl kC) ?_
  refine WP.ap 0 .n rfl rfl rfl (VP.le_refl _) Try.underlying45 el42_sl_C (by simp) fun v3 => ?_
  refine WP.s .n (O.asg rfl) ?_
  refine WP.nil ?_
  refine QE.next ?_
  refine CW.ret ?_
  refine ST.freeze 0 rfl (.hit (i := 0) rfl (.keep (i := 1) rfl (.keep (i := 2) rfl (.keep (i := 3) rfl (.keep (i := 4) rfl (.keep (i := 5) rfl (.keep (i := 6) rfl (.keep (i := 7) rfl (.keep (i := 8) rfl (.keep (i := 9) rfl (.keep (i := 10) rfl (.keep (i := 11) rfl (.keep (i := 12) rfl (.keep (i := 13) rfl (.keep (i := 14) rfl (.keep (i := 15) rfl (.keep (i := 16) rfl (.keep (i := 17) rfl (.hit (i := 18) rfl .nil))))))))))))))))))) ?_
  exact QE.done (.inl rfl) rfl (ResOk.t rfl ResOk.nil) (OImp.sub (List.nil_sublist _)) ⟨rfl, rfl⟩

set_option maxRecDepth 20000 in
set_option maxHeartbeats 1000000 in
theorem c_law22_alive  : Fn Try.prog 4 [] (kBool.is true) := by
  refine Con.enter Try.func4 rfl rfl fun m w => ?_
  refine CW.seq ?_
  refine CW.region ?_
  refine WP.s .n (O.asg rfl) ?_
  refine WP.nil ?_
  refine QE.next ?_
  refine CW.seq ?_
  refine CW.region ?_
  refine WP.s .n (O.asg rfl) ?_
  refine WP.nil ?_
  refine QE.next ?_
  refine CW.seq ?_
  refine CW.region ?_
  refine WP.s .n (O.mv rfl) ?_
  refine WP.s .n (O.fn fn11 (evs.l rfl (i64_int (by omega)) evs.nil) (c_zint_Of 1)) ?_
  refine WP.s .n (O.fn fn11 (evs.l rfl (i64_int (by omega)) evs.nil) (c_zint_Of (-1))) ?_
  refine WP.s .n (O.bs Try.underlying42 el24_C (evl.c rfl (evl.c rfl evl.n)) rfl (by decide)) ?_
  refine ST.nilrow 24 kC ?_
  refine WP.ap 0 .n rfl rfl rfl (VP.le_refl _) Try.underlying42 el24_C (by simp) fun v1 => ?_
  refine WP.s .n (O.asg rfl) ?_
  refine WP.nil ?_
  refine QE.next ?_
  refine CW.seq ?_
  have hs1 : Sm 1 := Sm_of (n := 2) (by decide) (by decide)
  have hsm : Sm (-1) := Sm_of (n := 2) (by decide) (by decide)
  have hs2 : Sm 2 := Sm_of (n := 2) (by decide) (by decide)
  have hx1 : ∀ x ∈ ([1, -1] : List Int), Sm x := by intro x hx; rcases List.mem_cons.1 hx with rfl | hx; exact hs1; rcases List.mem_cons.1 hx with rfl | hx; exact hsm; cases hx
  have hs6 : ∀ r ∈ ([[2, 1], [1, 2]] : List (List Int)), ∀ x ∈ r, Sm x := by intro r hr x hx; simp at hr; rcases hr with rfl | rfl <;> simp at hx <;> rcases hx with rfl | rfl <;> assumption
  have hx6 : SzL 1 ([1, -1] : List Int) := by intro i; match i with | 0 => exact (by decide : (1 : Int).natAbs < 2 ^ 1) | 1 => exact (by decide : (-1 : Int).natAbs < 2 ^ 1) | n + 2 => exact Sz.zero 1
  refine CW.region ?_
  refine WP.s .n (O.fn fn13 evs.nil (c_law22_six)) ?_
  refine WP.s .n (O.mv rfl) ?_
  refine ST.freeze 0 rfl (.keep (i := 0) rfl (.hit (i := 1) rfl (.keep (i := 4) rfl (.keep (i := 5) rfl (.keep (i := 6) rfl (.keep (i := 7) rfl (.hit (i := 8) rfl (.keep (i := 10) rfl (.hit (i := 11) rfl .nil))))))))) ?_
  refine WP.s .n (O.fn fn12 (evs.l rfl (slslC_Z (by first | exact hx1 | exact hs6 | exact hs6 _ (by simp) | (intro x hx; simp at hx; rcases hx with rfl | rfl <;> assumption) | (simp; exact ⟨hs1, hsm⟩))) (evs.l rfl (slC_Z (by first | exact hx1 | exact hs6 | exact hs6 _ (by simp) | (intro x hx; simp at hx; rcases hx with rfl | rfl <;> assumption) | (simp; exact ⟨hs1, hsm⟩))) evs.nil)) (c_quad_Value 1 [[2, 1], [1, 2]] [1, (-1)] hx6 (by decide))) ?_
  refine WP.s .n (O.mv rfl) ?_
  refine WP.s .n (O.ext rfl rfl) ?_
  refine WP.s .n (O.ext rfl rfl) ?_
  refine WP.al .n z24_C fun b2 => ?_
  refine WP.t .n (O.stW (l := kC) (u := qvalV [[2, 1], [1, 2]] [1, (-1)]) 0 rfl rfl rfl ty24 rfl (VP.le_refl _)) ?_
  refine WP.s .n (O.asg rfl) ?_
  refine WP.nil ?_
  refine QE.next ?_
  refine CW.seq ?_
  refine ST.obtold 0 rfl (OB.box_eq (y := 2) (by decide +kernel)) ?_
  refine ST.obtold (b' := OB.box b2 24 kI (canon 2)) 0 rfl OB.C_I ?_
  refine CW.draw (Γ := [.fr ((kInt .i64).is (qvalE [[2, 1], [1, 2]] [1, (-1)])), .fr (kBool.is true), .fr (kBool.is true), .fr (kI.is (canon 2)), .fr (kC.is 2), .fr (kBool.is true), .fr (kBool.is true), .fr (kBool.is true), .fr (VP.ex (.pointer (some ⟨b2, 1, none⟩))), .fr (kN.is ((canon 2).2)), .fr ((kInt .i64).is (((canon 2).2).length : Int)), .fr (kBool.is true), .fr (kBool.is true)]) (lates := [false, false, false, false, false, false, false, false, false, false, false, false, false]) (by kernel_rfl) (Chk.of rfl (by kernel_rfl) rfl) (fun _ _ _ _ _ h => h) (fun q_ x_ h_ => ?_) (fun σ1 => ?_)
  · match q_, h_ with
    | 0, h_ => cases h_; exact Ob.f rfl .n fun N => (O.mv rfl)
    | 1, h_ => cases h_; exact Ob.f rfl .n fun N => (OpOk.le (O.eq rfl rfl) (is_eq (decide_eq_true (by decide +kernel))))
    | 2, h_ => cases h_; exact Ob.f rfl .n fun N => (O.mv rfl)
    | 3, h_ => cases h_; exact Ob.f rfl (.g rfl rfl) fun N => (O.ld rfl (mem_app N (mem_at 0 rfl)) (Lens.id _) ty24 rfl)
    | 4, h_ => cases h_; exact Ob.f rfl (.g rfl rfl) fun N => (O.fn fn11 (evs.l rfl (i64_int (by omega)) evs.nil) (c_zint_Of 2))
    | 5, h_ => cases h_; exact Ob.f rfl (.g rfl rfl) fun N => (OpOk.le (O.fn fn7 (evs.c rfl (evs.l rfl (kC_I _) evs.nil)) (c_law22_eq (canon 2) (canon 2))) (is_eq (by simp)))
    | 6, h_ => cases h_; exact Ob.f rfl .n fun N => (O.pickT rfl rfl)
    | 7, h_ => cases h_; exact Ob.f rfl .n fun N => (O.mv rfl)
    | 8, h_ => cases h_; exact Ob.f rfl (.g rfl rfl) fun N => (O.fa rfl fld24_1 rfl)
    | 9, h_ => cases h_; exact Ob.f rfl (.g rfl rfl) fun N => (O.ld rfl (mem_app N (mem_at 0 rfl)) (Lens.snd (Lens.id _)) ty22 rfl)
    | 10, h_ => cases h_; exact Ob.f rfl (.g rfl rfl) fun N => (O.lenS rfl Try.underlying22)
    | 11, h_ => cases h_; exact Ob.f rfl (.g rfl rfl) fun N => (OpOk.le (O.eq rfl rfl) (is_eq (by simp [canon, limbs_pos, limbs_zero])))
    | 12, h_ => cases h_; exact Ob.f rfl .n fun N => (O.pickT rfl rfl)
    | n_ + 13, h_ => simp at h_
  refine WP.s .n (O.asg rfl) ?_
  refine WP.nil ?_
  refine QE.next ?_
  refine CW.ret ?_
  exact QE.done (.inl rfl) rfl (ResOk.t rfl ResOk.nil) (OImp.sub (List.nil_sublist _)) ⟨rfl, rfl⟩

end Fw


/- Plain facts: a reduced binary form is its own; a discriminant stays; classes are reduced, and there is one. -/
set_option linter.unusedVariables false
set_option linter.unusedSimpArgs false
set_option exponentiation.threshold 400
namespace Fw
open Go

/-- as the law has it -/
def redL (p : Int × Int × Int) : Prop := -p.1 < p.2.1 ∧ p.2.1 ≤ p.1 ∧ redF p.1 p.2.1 p.2.2
def dis3 (p : Int × Int × Int) : Int := p.2.1 * p.2.1 - 4 * (p.1 * p.2.2)
theorem g1_props : ∀ (n : Nat) (A B C : Int), 2 * A.toNat + gFlag A B ≤ n → posF A B C → redL (g1 A B C) ∧ dis3 (g1 A B C) = B * B - 4 * (A * C) ∧ 0 < (g1 A B C).1
  | n, A, B, C, hn, hp => by
    by_cases h : redF A (sB A B) (sC A B C)
    · rw [← g1_end h]
      obtain ⟨h1, h2⟩ := sB_rng (B := B) hp.1
      exact ⟨⟨h1, h2, h⟩, disc_s A B C, hp.1⟩
    · have hd := gs_dec' hp h
      rw [← g1_go hp h]
      cases n with
      | zero => omega
      | succ n =>
        obtain ⟨a, b, c⟩ := g1_props n (sC A B C) (-(sB A B)) A (by omega) (pos_next hp)
        refine ⟨a, ?_, c⟩
        rw [b, ← disc_s A B C, Int.neg_mul_neg, Int.mul_comm A (sC A B C)]
/-- once more changes nothing -/
theorem g1_again {A B C : Int} (hA : 0 < A) (h : redL (A, B, C)) : g1 A B C = (A, B, C) := by
  obtain ⟨h1, h2, h3⟩ := h
  replace h1 : -A < B := h1
  replace h2 : B ≤ A := h2
  have hk : kF A B = 0 := by
    unfold kF
    have := Int.fdiv_eq_ediv_of_nonneg (A - B) (show 0 ≤ A + A by omega)
    rw [this]
    exact Int.ediv_eq_zero_of_lt (by omega) (by omega)
  have e1 : sB A B = B := by unfold sB; rw [hk]; omega
  have e2 : sC A B C = C := by unfold sC; rw [hk]; omega
  have h4 : redF A (sB A B) (sC A B C) := by rw [e1, e2]; exact h3
  rw [← g1_end h4, e1, e2]
/-! ### Classes -/
theorem rowT_cond {d a : Int} : ∀ {j : Nat} {x : T3}, x ∈ rowT d a j → condT d a x.2.1
  | 0, x, h => by simp [rowT] at h
  | j + 1, x, h => by
    simp only [rowT, List.mem_append] at h
    rcases h with h | h
    · exact rowT_cond h
    · split at h
      · rename_i hc; simp at h; subst h; exact hc
      · cases h
theorem allT_cond {d : Int} : ∀ {f : Nat} {a : Int} {x : T3}, x ∈ allT d f a → condT d x.1 x.2.1
  | 0, a, x, h => by simp [allT] at h
  | f + 1, a, x, h => by
    simp only [allT] at h
    split at h
    · rcases List.mem_append.1 h with h | h
      · have h1 := (rowT_mem h).1
        have h2 := rowT_cond h
        rw [h1]; exact h2
      · exact allT_cond h
    · cases h
theorem tdiv_ex {n m : Int} (h : n.tmod m = 0) : m * n.tdiv m = n := by
  have := Int.mul_tdiv_add_tmod n m
  omega
theorem class_ok {d : Int} {x : T3} (hx : x ∈ listT d) : redL x ∧ dis3 x = d ∧ 0 < x.1 := by
  obtain ⟨h1, h2, h3, h4, h5⟩ := allT_mem hx
  obtain ⟨c1, c2, c3, c4⟩ := allT_cond hx
  have e := tdiv_ex c1
  have e2 : 4 * x.1 * cT d x.1 x.2.1 = x.2.1 * x.2.1 - d := e
  refine ⟨⟨by omega, by omega, ?_⟩, ?_, by omega⟩
  · rw [h5]
    unfold redF
    omega
  · unfold dis3
    rw [h5, ← Int.mul_assoc]
    omega
theorem class_some {d : Int} (h : ¬ (0 ≤ d ∨ d < -20000 ∨ 1 < (d.tmod 4 + 4).tmod 4)) : listT d ≠ [] := by
  have h1 : d < 0 := by omega
  have e1 : d.tmod 4 = -((-d) % 4) := by
    have : d.tmod 4 = -((-d).tmod 4) := by rw [Int.neg_tmod]; omega
    rw [this, Int.tmod_eq_emod_of_nonneg (by omega)]
  have e2 : (d.tmod 4 + 4).tmod 4 = (d.tmod 4 + 4) % 4 := Int.tmod_eq_emod_of_nonneg (by omega)
  have h3 : d ≤ -3 := by omega
  have key : ∀ b : Int, (b = 0 ∨ b = 1) → (b * b - d) % 4 = 0 → condT d 1 b := fun b hb h4 => by
    have e3 : (b * b - d).tmod (4 * 1) = 0 := by
      rw [Int.mul_one, Int.tmod_eq_emod_of_nonneg (by rcases hb with rfl | rfl <;> omega)]; exact h4
    have e4 : cT d 1 b = (b * b - d) / 4 := by
      unfold cT; rw [Int.mul_one, Int.tdiv_eq_ediv_of_nonneg (by rcases hb with rfl | rfl <;> omega)]
    refine ⟨e3, ?_, ?_, ?_⟩
    · rw [e4]; rcases hb with rfl | rfl <;> omega
    · rcases hb with rfl | rfl <;> omega
    · rw [Int.gcd_comm 1 b]; simp
  have mem : ∀ b : Int, (b = 0 ∨ b = 1) → condT d 1 b → ∃ x, x ∈ listT d := fun b hb hc => by
    refine ⟨(1, b, cT d 1 b), ?_⟩
    show (1, b, cT d 1 b) ∈ (if 3 * 1 * 1 ≤ -d then rowT d 1 (2 * 1 : Int).toNat ++ allT d 98 (1 + 1) else [])
    rw [if_pos (by omega)]
    refine List.mem_append.2 (Or.inl ?_)
    show (1, b, cT d 1 b) ∈ rowT d 1 2
    simp only [rowT, List.mem_append]
    rcases hb with rfl | rfl
    · left; right
      rw [if_pos (by simpa using hc)]; simp
    · right
      rw [if_pos (by simpa using hc)]; simp
  have hm : ∃ x, x ∈ listT d := by
    by_cases h4 : (-d) % 4 = 0
    · exact mem 0 (Or.inl rfl) (key 0 (Or.inl rfl) (by omega))
    · exact mem 1 (Or.inr rfl) (key 1 (Or.inr rfl) (by omega))
  intro he
  obtain ⟨x, hx⟩ := hm
  rw [he] at hx; cases hx
/-- as the law asks it: one number is not above the other -/
theorem sgn_ngt {a b : Int} (h : a ≤ b) : ¬ 0 < (a - b).sign := fun h1 => by
  rcases Int.lt_trichotomy (a - b) 0 with e | e | e
  · rw [Int.sign_eq_neg_one_of_neg e] at h1; omega
  · rw [e] at h1; exact absurd h1 (by decide)
  · omega
theorem red_Sz {n : Nat} {A B C a b c : Int} (hp : posF A B C) (hA : Sz n A) (hC : Sz n C) (h : redL (a, b, c)) (hd : dis3 (a, b, c) = B * B - 4 * (A * C)) (ha : 0 < a) : Sz (n + n + 1) a ∧ Sz (n + n + 1) b ∧ Sz (n + n + 1) c := by
  obtain ⟨h1, h2, h3⟩ := h
  replace h1 : -a < b := h1
  replace h2 : b ≤ a := h2
  have h4 : a ≤ c := h3.elim (fun h => Int.le_of_lt h) (fun h => Int.le_of_eq h.1)
  replace hd : b * b - 4 * (a * c) = B * B - 4 * (A * C) := hd
  have hBB := sq_nn B
  have hbb : b * b ≤ a * a := by
    have := Int.mul_nonneg (show 0 ≤ a - b by omega) (show 0 ≤ a + b by omega)
    grind
  have hac : a * a ≤ a * c := Int.mul_le_mul_of_nonneg_left h4 (by omega)
  have hc1 : 1 * c ≤ a * c := Int.mul_le_mul_of_nonneg_right (by omega) (by omega)
  have hC0 : 0 < C := by
    have h5 : 0 < A * C := by have := hp.2; omega
    rcases Int.lt_or_le 0 C with h6 | h6
    · exact h6
    · have := Int.mul_nonpos_of_nonneg_of_nonpos (Int.le_of_lt hp.1) h6; omega
  have hAC : Sz (n + n) (A * C) := hA.mul hC
  have hAC0 : 0 < A * C := Int.mul_pos hp.1 hC0
  unfold Sz at hAC ⊢
  have e : 2 ^ (n + n + 1) = 2 * 2 ^ (n + n) := by rw [Nat.pow_succ]; omega
  generalize (2 : Nat) ^ (n + n) = P at *
  rw [e]
  omega
theorem posF_red {A B C a b c : Int} (hp : posF A B C) (hd : dis3 (a, b, c) = B * B - 4 * (A * C)) (ha : 0 < a) : posF a b c := by
  have h2 := hp.2
  replace hd : b * b - 4 * (a * c) = B * B - 4 * (A * C) := hd
  exact ⟨ha, by omega⟩
theorem GV_ok {A B C : Int} (h : (GV A B C).2.2 = 0) : posF A B C := by
  by_cases e : posF A B C
  · exact e
  · rw [GV_n e] at h; exact absurd h (by decide)
theorem clV_bad {d : Int} (h : (clV d).2 ≠ 0) : (clV d).1 = [] := by
  by_cases e : 0 ≤ d ∨ d < -20000 ∨ 1 < (d.tmod 4 + 4).tmod 4
  · rw [clV_1 e]
  · rw [clV_2 e] at h; exact absurd rfl h
theorem clV_good {d : Int} (h : ¬ (clV d).2 ≠ 0) : ¬ (0 ≤ d ∨ d < -20000 ∨ 1 < (d.tmod 4 + 4).tmod 4) := fun e => by
  rw [clV_1 e] at h; exact h (by decide)
theorem cls_at {d : Int} (hd : ¬ (0 ≤ d ∨ d < -20000 ∨ 1 < (d.tmod 4 + 4).tmod 4)) {i : Nat} (hi : i < (listT d).length) : (redL (((listT d).getD i (0, 0, 0)).1, ((listT d).getD i (0, 0, 0)).2.1, ((listT d).getD i (0, 0, 0)).2.2) ∧ ((listT d).getD i (0, 0, 0)).2.1 * ((listT d).getD i (0, 0, 0)).2.1 - 4 * (((listT d).getD i (0, 0, 0)).1 * ((listT d).getD i (0, 0, 0)).2.2) = d ∧ 0 < ((listT d).getD i (0, 0, 0)).1) ∧ Sz 16 ((listT d).getD i (0, 0, 0)).1 ∧ Sz 16 ((listT d).getD i (0, 0, 0)).2.1 ∧ Sz 16 ((listT d).getD i (0, 0, 0)).2.2 := by
  rw [List.getD_eq_getElem?_getD, List.getElem?_eq_getElem hi]
  refine ⟨class_ok (List.getElem_mem hi), ?_⟩
  obtain ⟨h1, h2, h3, h4, h5, h6⟩ := listT_bd (d := d) (by omega) (by omega) (List.getElem_mem hi)
  unfold Sz
  show ((listT d)[i]).1.natAbs < 2 ^ 16 ∧ ((listT d)[i]).2.1.natAbs < 2 ^ 16 ∧ ((listT d)[i]).2.2.natAbs < 2 ^ 16
  refine ⟨?_, ?_, ?_⟩ <;> omega
theorem c3_z3 {x y z : Int} (h1 : Sm x) (h2 : Sm y) (h3 : Sm z) : VP.le ((kPair kC (kPair kC kC)).is (x, y, z)) ((kPair kZ (kPair kZ kZ)).is (x, y, z)) :=
  is_kd rfl fun m cs ⟨a, b, e, ha, c, d, e2, hc, hd⟩ => ⟨a, b, e, kC_Zat h1 ha, c, d, e2, kC_Zat h2 hc, kC_Zat h3 hd⟩
theorem red_sg1 {A B : Int} (h : ((B.natAbs : Int) - A).sign = 0) (hl : -A < B) : decide (0 ≤ B.sign) = true := by
  have h1 := Int.sign_eq_zero_iff_zero.1 h
  have h2 : 0 ≤ B := by omega
  exact decide_eq_true (Int.sign_nonneg_iff.2 h2)
theorem red_sg2 {A B C : Int} (h : (!decide ((A - C).sign = 0)) = false) (hr : A < C ∨ (A = C ∧ 0 ≤ B)) : decide (0 ≤ B.sign) = true := by
  have h0 : (A - C).sign = 0 := by simpa using h
  have h1 := Int.sign_eq_zero_iff_zero.1 h0
  have h2 : 0 ≤ B := by omega
  exact decide_eq_true (Int.sign_nonneg_iff.2 h2)
theorem allT_len {d : Int} : ∀ (f : Nat) (a : Int), a + f ≤ 100 → (allT d f a).length ≤ f * 200
  | 0, a, h => by simp [allT]
  | f + 1, a, h => by
    have ih := allT_len (d := d) f (a + 1) (by omega)
    have hr := rowT_len d a (2 * a).toNat
    simp only [allT]
    split
    · rw [List.length_append]; omega
    · simp
theorem listT_len2 (d : Int) : (listT d).length ≤ 19800 := allT_len 99 1 (by decide)
theorem listT_pos {d : Int} (h : ¬ (0 ≤ d ∨ d < -20000 ∨ 1 < (d.tmod 4 + 4).tmod 4)) : 0 < (listT d).length := List.length_pos_iff.2 (class_some h)
end Fw


/- Reduced binary forms, discriminants. -/
set_option linter.unusedVariables false
set_option linter.unusedSimpArgs false
set_option exponentiation.threshold 400
namespace Fw
open Go Go.Proofs

set_option maxRecDepth 20000 in
set_option maxHeartbeats 1000000 in
theorem c_law22_disc (A B C : Int) (hD : DiS A B C) : Fn Try.prog 9 [(kPair kZ (kPair kZ kZ)).is (A, B, C)] (kC.is (B * B - 4 * (A * C))) := by
  refine Con.enter Try.func9 rfl rfl fun m w => ?_
  refine CW.seq ?_
  refine CW.region ?_
  refine WP.bx .n rfl fun b1 => ?_
  refine WP.al .n z24_C fun b2 => ?_
  refine WP.nil ?_
  refine QE.next ?_
  refine CW.seq ?_
  refine CW.draw (Γ := [.fr (VP.ex (.pointer (some ⟨b1, 2, none⟩))), .fr (kZ.is B), .fr (VP.ex (.pointer (some ⟨b1, 2, none⟩))), .fr (kZ.is B), .fr (kC.is (B * B)), .fr (kC.is 4), .fr (VP.ex (.pointer (some ⟨b1, 0, none⟩))), .fr (kZ.is A), .fr (VP.ex (.pointer (some ⟨b1, 4, none⟩))), .fr (kZ.is C), .fr (kC.is (A * C)), .fr (kC.is (4 * (A * C))), .fr (kC.is ((B * B) - (4 * (A * C))))]) (lates := [false, false, false, false, false, false, false, false, false, false, false, false, false]) (by kernel_rfl) (Chk.of rfl (by kernel_rfl) rfl) (fun _ _ _ _ _ h => h) (fun q_ x_ h_ => ?_) (fun σ1 => ?_)
  · match q_, h_ with
    | 0, h_ => cases h_; exact Ob.f rfl .n fun N => (O.fa rfl fld26_1 rfl)
    | 1, h_ => cases h_; exact Ob.f rfl .n fun N => (O.ld (p := kZ.is B) rfl (mem_app N (mem_at 1 rfl)) (Lens.snd (Lens.fst (Lens.id _))) ty24 rfl)
    | 2, h_ => cases h_; exact Ob.f rfl .n fun N => (O.fa rfl fld26_1 rfl)
    | 3, h_ => cases h_; exact Ob.f rfl .n fun N => (O.ld (p := kZ.is B) rfl (mem_app N (mem_at 1 rfl)) (Lens.snd (Lens.fst (Lens.id _))) ty24 rfl)
    | 4, h_ => cases h_; exact Ob.f rfl .n fun N => (O.fn fn20 (evs.c rfl (evs.c rfl evs.nil)) (c_zint_Mul B B))
    | 5, h_ => cases h_; exact Ob.f rfl .n fun N => (O.fn fn11 (evs.l rfl (i64_int (by omega)) evs.nil) (c_zint_Of 4))
    | 6, h_ => cases h_; exact Ob.f rfl .n fun N => (O.fa rfl fld26_0 rfl)
    | 7, h_ => cases h_; exact Ob.f rfl .n fun N => (O.ld (p := kZ.is A) rfl (mem_app N (mem_at 1 rfl)) (Lens.fst (Lens.id _)) ty24 rfl)
    | 8, h_ => cases h_; exact Ob.f rfl .n fun N => (O.fa rfl fld26_2 rfl)
    | 9, h_ => cases h_; exact Ob.f rfl .n fun N => (O.ld (p := kZ.is C) rfl (mem_app N (mem_at 1 rfl)) (Lens.snd (Lens.snd (Lens.id _))) ty24 rfl)
    | 10, h_ => cases h_; exact Ob.f rfl .n fun N => (O.fn fn20 (evs.c rfl (evs.c rfl evs.nil)) (c_zint_Mul A C))
    | 11, h_ => cases h_; exact Ob.f rfl .n fun N => (O.fn fn20 (evs.l rfl (kC_Z hD.f4) (evs.l rfl (kC_Z hD.ac) evs.nil)) (c_zint_Mul 4 (A * C)))
    | 12, h_ => cases h_; exact Ob.f rfl .n fun N => (O.fn fn19 (evs.l rfl (kC_Z hD.bb) (evs.l rfl (kC_Z hD.ac4) evs.nil)) (c_zint_Sub (B * B) (4 * (A * C))))
    | n_ + 13, h_ => simp at h_
  refine WP.t .n (O.stW (l := kC) (u := (B * B) - (4 * (A * C))) 0 rfl rfl rfl ty24 rfl (VP.le_refl _)) ?_
  refine WP.nil ?_
  refine QE.next ?_
  refine CW.ret ?_
  exact QE.done (.inl rfl) rfl (ResOk.cl rfl (mem_at 0 rfl) ty24 (is_eq (y := (B * B - 4 * (A * C))) (by rfl)) ResOk.nil) (OImp.sub (List.nil_sublist _)) ⟨rfl, rfl⟩

set_option maxRecDepth 20000 in
set_option maxHeartbeats 1000000 in
theorem c_law22_reduced (A B C : Int) (h : redL (A, B, C)) (hb : Sm B) : Fn Try.prog 8 [(kPair kZ (kPair kZ kZ)).is (A, B, C)] (kBool.is true) := by
  refine Con.enter Try.func8 rfl rfl fun m w => ?_
  obtain ⟨hl, hh, hr⟩ := h
  replace hl : -A < B := hl
  replace hh : B ≤ A := hh
  replace hr : A < C ∨ (A = C ∧ 0 ≤ B) := hr
  refine CW.seq ?_
  refine CW.region ?_
  refine WP.bx .n rfl fun b1 => ?_
  refine WP.s .n (O.asg rfl) ?_
  refine WP.nil ?_
  refine QE.next ?_
  refine CW.seq ?_
  refine CW.region ?_
  refine WP.s .n (O.fa rfl fld26_1 rfl) ?_
  refine WP.s .n (O.ld (p := kZ.is B) rfl (mem_at 0 rfl) (Lens.snd (Lens.fst (Lens.id _))) ty24 rfl) ?_
  refine WP.s .n (O.fn fn17 (evs.c rfl evs.nil) (c_zint_Abs B)) ?_
  refine WP.al .n z24_C fun b2 => ?_
  refine WP.t .n (O.stW (l := kC) (u := (B.natAbs : Int)) 0 rfl rfl rfl ty24 rfl (VP.le_refl _)) ?_
  refine WP.nil ?_
  refine QE.next ?_
  refine CW.seq ?_
  refine CW.seq ?_
  refine CW.region ?_
  refine WP.s .n (O.ld rfl (mem_at 0 rfl) (Lens.id _) ty24 rfl) ?_
  refine WP.s .n (O.fa rfl fld26_0 rfl) ?_
  refine WP.s .n (O.ld (p := kZ.is A) rfl (mem_at 1 rfl) (Lens.fst (Lens.id _)) ty24 rfl) ?_
  refine WP.s .n (O.fn fn16 (evs.l rfl (kC_Z (by first | assumption | exact Sm_abs hb)) (evs.c rfl evs.nil)) (c_zint_Compare (B.natAbs : Int) A)) ?_
  refine WP.s .n (O.gt rfl rfl) ?_
  refine WP.s .n (O.mv rfl) ?_
  refine WP.splitD 13 rfl (fun h => absurd h (sgn_ngt (by omega))) (fun h_t13 => ?_)
  refine WP.s (.g rfl rfl) (O.fa rfl fld26_0 rfl) ?_
  refine WP.s (.g rfl rfl) (O.ld (p := kZ.is A) rfl (mem_at 1 rfl) (Lens.fst (Lens.id _)) ty24 rfl) ?_
  refine WP.s (.g rfl rfl) (O.fa rfl fld26_2 rfl) ?_
  refine WP.s (.g rfl rfl) (O.ld (p := kZ.is C) rfl (mem_at 1 rfl) (Lens.snd (Lens.snd (Lens.id _))) ty24 rfl) ?_
  refine WP.s (.g rfl rfl) (O.fn fn16 (evs.c rfl (evs.c rfl evs.nil)) (c_zint_Compare A C)) ?_
  refine WP.s (.g rfl rfl) (O.gt rfl rfl) ?_
  refine WP.s .n (O.pickF rfl rfl) ?_
  refine WP.nil ?_
  refine QE.next ?_
  refine CW.condD rfl (fun h => absurd h (sgn_ngt (by omega))) (fun h_t20 => ?_)
  refine CW.skip ?_
  refine QE.next ?_
  refine CW.seq ?_
  refine CW.region ?_
  refine WP.s .n (O.ld rfl (mem_at 0 rfl) (Lens.id _) ty24 rfl) ?_
  refine WP.s .n (O.fa rfl fld26_0 rfl) ?_
  refine WP.s .n (O.ld (p := kZ.is A) rfl (mem_at 1 rfl) (Lens.fst (Lens.id _)) ty24 rfl) ?_
  refine WP.s .n (O.fn fn16 (evs.l rfl (kC_Z (by first | assumption | exact Sm_abs hb)) (evs.c rfl evs.nil)) (c_zint_Compare (B.natAbs : Int) A)) ?_
  refine WP.s .n (O.eq rfl rfl) ?_
  refine WP.s .n (O.mv rfl) ?_
  refine WP.splitD 26 rfl (fun h_t26 => ?_) (fun h_t26 => ?_)
  · refine WP.ku (b := true) rfl rfl ?_
    refine WP.ku (b := true) rfl rfl ?_
    refine WP.ku (b := true) rfl rfl ?_
    refine WP.ku (b := true) rfl rfl ?_
    refine WP.ku (b := true) rfl rfl ?_
    refine WP.ku (b := true) rfl rfl ?_
    refine WP.s .n (O.pickT rfl rfl) ?_
    refine WP.s .n (O.asg rfl) ?_
    refine WP.nil ?_
    refine QE.next ?_
    refine CW.seq ?_
    refine CW.region ?_
    refine WP.s .n (O.mv rfl) ?_
    refine WP.s .n (O.not (a := true) rfl) ?_
    refine WP.s .n (O.mv rfl) ?_
    refine WP.s (.g rfl rfl) (O.fa rfl fld26_1 rfl) ?_
    refine WP.s (.g rfl rfl) (O.ld (p := kZ.is B) rfl (mem_at 1 rfl) (Lens.snd (Lens.fst (Lens.id _))) ty24 rfl) ?_
    refine WP.s (.g rfl rfl) (O.fn fn18 (evs.c rfl evs.nil) (c_zint_Sign B)) ?_
    refine WP.s (.g rfl rfl) (O.ge rfl rfl) ?_
    refine WP.s .n (O.pickF rfl rfl) ?_
    refine WP.s .n (O.asg rfl) ?_
    refine WP.nil ?_
    refine QE.next ?_
    refine CW.ret ?_
    refine ST.told 2 rfl (is_eq (y := true) (red_sg1 h_t26 hl)) ?_
    exact QE.done (.inl rfl) rfl (ResOk.t rfl ResOk.nil) (OImp.sub (List.nil_sublist _)) ⟨rfl, rfl⟩
  · refine WP.s (.g rfl rfl) (O.fa rfl fld26_0 rfl) ?_
    refine WP.s (.g rfl rfl) (O.ld (p := kZ.is A) rfl (mem_at 1 rfl) (Lens.fst (Lens.id _)) ty24 rfl) ?_
    refine WP.s (.g rfl rfl) (O.fa rfl fld26_2 rfl) ?_
    refine WP.s (.g rfl rfl) (O.ld (p := kZ.is C) rfl (mem_at 1 rfl) (Lens.snd (Lens.snd (Lens.id _))) ty24 rfl) ?_
    refine WP.s (.g rfl rfl) (O.fn fn16 (evs.c rfl (evs.c rfl evs.nil)) (c_zint_Compare A C)) ?_
    refine WP.s (.g rfl rfl) (O.eq rfl rfl) ?_
    refine WP.s .n (O.pickF rfl rfl) ?_
    refine WP.s .n (O.asg rfl) ?_
    refine WP.nil ?_
    refine QE.next ?_
    refine CW.seq ?_
    refine CW.region ?_
    refine WP.s .n (O.mv rfl) ?_
    refine WP.s .n (O.not rfl) ?_
    refine WP.s .n (O.mv rfl) ?_
    refine WP.split 36 rfl (fun h_t36 => ?_) (fun h_t36 => ?_)
    · refine WP.ku (b := true) rfl rfl ?_
      refine WP.ku (b := true) rfl rfl ?_
      refine WP.ku (b := true) rfl rfl ?_
      refine WP.ku (b := true) rfl rfl ?_
      refine WP.s .n (O.pickT rfl rfl) ?_
      refine WP.s .n (O.asg rfl) ?_
      refine WP.nil ?_
      refine QE.next ?_
      refine CW.ret ?_
      exact QE.done (.inl rfl) rfl (ResOk.t rfl ResOk.nil) (OImp.sub (List.nil_sublist _)) ⟨rfl, rfl⟩
    · refine WP.s (.g rfl rfl) (O.fa rfl fld26_1 rfl) ?_
      refine WP.s (.g rfl rfl) (O.ld (p := kZ.is B) rfl (mem_at 1 rfl) (Lens.snd (Lens.fst (Lens.id _))) ty24 rfl) ?_
      refine WP.s (.g rfl rfl) (O.fn fn18 (evs.c rfl evs.nil) (c_zint_Sign B)) ?_
      refine WP.s (.g rfl rfl) (O.ge rfl rfl) ?_
      refine WP.s .n (O.pickF rfl rfl) ?_
      refine WP.s .n (O.asg rfl) ?_
      refine WP.nil ?_
      refine QE.next ?_
      refine CW.ret ?_
      refine ST.told 2 rfl (is_eq (y := true) (red_sg2 h_t36 hr)) ?_
      exact QE.done (.inl rfl) rfl (ResOk.t rfl ResOk.nil) (OImp.sub (List.nil_sublist _)) ⟨rfl, rfl⟩

set_option maxRecDepth 20000 in
set_option maxHeartbeats 1000000 in
theorem c_law22_QuadReduced (A B C d : Int) (n : Nat) (hn : n ≤ 40000000) (ha : Sz n A) (hb : Sz n B) (hc : Sz n C) : Fn Try.prog 3 [(kPair kZ (kPair kZ kZ)).is (A, B, C), (kInt .i64).is d] (kBool.is true) := by
  refine Con.enter Try.func3 rfl rfl fun m w => ?_
  refine CW.seq ?_
  refine CW.region ?_
  refine WP.bx .n rfl fun b1 => ?_
  refine WP.s .n (O.asg rfl) ?_
  refine WP.nil ?_
  refine QE.next ?_
  refine CW.seq ?_
  refine CW.seq ?_
  refine CW.region ?_
  refine WP.s .n (O.fn fn4 evs.nil (c_law22_alive)) ?_
  refine WP.s .n (O.not (a := true) rfl) ?_
  refine WP.nil ?_
  refine QE.next ?_
  refine CW.condF rfl ?_
  refine CW.skip ?_
  refine QE.next ?_
  refine CW.seq ?_
  refine CW.region ?_
  refine WP.s .n (O.ld (p := (kPair kZ (kPair kZ kZ)).is (A, B, C)) rfl (mem_at 0 rfl) (Lens.id _) ty26 rfl) ?_
  refine WP.s .n (O.fn fn5 (evs.c rfl evs.nil) (c_quad_Gauss A B C n (by omega) (by assumption) (by assumption) (by assumption))) ?_
  refine WP.s .n (O.mv rfl) ?_
  refine WP.s .n (O.ext rfl rfl) ?_
  refine WP.s .n (O.ext rfl rfl) ?_
  refine WP.s .n (O.ext rfl rfl) ?_
  refine WP.al .n z26_pr_C_pr_C_C__ fun b2 => ?_
  refine WP.al .n z28_ar4_C fun b3 => ?_
  refine WP.t .n (O.stW (l := (kPair kC (kPair kC kC))) (u := (GV A B C).1) 1 rfl rfl rfl ty26 rfl (VP.le_refl _)) ?_
  refine WP.t .n (O.stW (l := (kArr 4 kC)) (u := (GV A B C).2.1) 0 rfl rfl rfl ty28 rfl (VP.le_refl _)) ?_
  refine WP.s .n (O.asg rfl) ?_
  refine WP.nil ?_
  refine QE.next ?_
  refine CW.seq ?_
  refine CW.seq ?_
  refine CW.region ?_
  refine WP.s .n (O.mv rfl) ?_
  refine WP.s .n (O.eq rfl rfl) ?_
  refine WP.nil ?_
  refine QE.next ?_
  refine CW.condD rfl (fun h_t24 => ?_) (fun h_t24 => ?_)
  · have hp : posF A B C := GV_ok h_t24
    have hG := GV_p hp
    refine CW.seq ?_
    obtain ⟨⟨a1, b1_, c1⟩, hg1⟩ : ∃ p, p = g1 A B C := ⟨_, rfl⟩
    obtain ⟨hRL, hDD, hpa⟩ := g1_props _ A B C (Nat.le_refl _) hp
    rw [← hg1] at hRL hDD hpa
    obtain ⟨hz1, hz2, hz3⟩ := red_Sz hp ha hc hRL hDD hpa
    have hp1 := posF_red hp hDD hpa
    have hG1 := GV_p hp1
    have hag := g1_again hpa hRL
    refine ST.obtold 1 rfl (OB.box_eq (y := (a1, b1_, c1)) (by rw [hG]; exact hg1.symm)) ?_
    refine CW.region ?_
    refine WP.s .n (O.ld (p := (kPair kC (kPair kC kC)).is (a1, b1_, c1)) rfl (mem_at 1 rfl) (Lens.id _) ty26 rfl) ?_
    refine WP.s .n (O.fn fn5 (evs.l rfl (c3_z3 (by first | exact hbd.1.sm (by omega) | exact hbd.2.1.sm (by omega) | exact hbd.2.2.sm (by omega) | exact hz1.sm (by omega) | exact hz2.sm (by omega) | exact hz3.sm (by omega) | exact Dis_Sm hz1 hz2 hz3 (by omega) | exact Dis_Sm ha hb hc (by omega)) (by first | exact hbd.1.sm (by omega) | exact hbd.2.1.sm (by omega) | exact hbd.2.2.sm (by omega) | exact hz1.sm (by omega) | exact hz2.sm (by omega) | exact hz3.sm (by omega) | exact Dis_Sm hz1 hz2 hz3 (by omega) | exact Dis_Sm ha hb hc (by omega)) (by first | exact hbd.1.sm (by omega) | exact hbd.2.1.sm (by omega) | exact hbd.2.2.sm (by omega) | exact hz1.sm (by omega) | exact hz2.sm (by omega) | exact hz3.sm (by omega) | exact Dis_Sm hz1 hz2 hz3 (by omega) | exact Dis_Sm ha hb hc (by omega))) evs.nil) (c_quad_Gauss a1 b1_ c1 (n + n + 1) (by omega) (by assumption) (by assumption) (by assumption))) ?_
    refine WP.s .n (O.mv rfl) ?_
    refine WP.s .n (O.ext rfl rfl) ?_
    refine WP.s .n (O.ext rfl rfl) ?_
    refine WP.s .n (O.ext rfl rfl) ?_
    refine WP.al .n z26_pr_C_pr_C_C__ fun b4 => ?_
    refine WP.al .n z28_ar4_C fun b5 => ?_
    refine WP.t .n (O.stW (l := (kPair kC (kPair kC kC))) (u := (GV a1 b1_ c1).1) 1 rfl rfl rfl ty26 rfl (VP.le_refl _)) ?_
    refine WP.t .n (O.stW (l := (kArr 4 kC)) (u := (GV a1 b1_ c1).2.1) 0 rfl rfl rfl ty28 rfl (VP.le_refl _)) ?_
    refine WP.s .n (O.asg rfl) ?_
    refine WP.nil ?_
    refine QE.next ?_
    refine CW.seq ?_
    refine ST.obtold 1 rfl (OB.box_eq (y := (a1, b1_, c1)) (by rw [hG1]; exact hag)) ?_
    refine ST.told 10 rfl (is_eq (y := 0) (by rw [hG1])) ?_
    refine CW.region ?_
    refine WP.s .n (O.ld (p := (kPair kZ (kPair kZ kZ)).is (A, B, C)) rfl (mem_at 4 rfl) (Lens.id _) ty26 rfl) ?_
    refine WP.s .n (O.ld (p := (kPair kC (kPair kC kC)).is (a1, b1_, c1)) rfl (mem_at 3 rfl) (Lens.id _) ty26 rfl) ?_
    refine WP.s .n (O.fn fn6 (evs.c rfl (evs.l rfl (c3_z3 (by first | exact hbd.1.sm (by omega) | exact hbd.2.1.sm (by omega) | exact hbd.2.2.sm (by omega) | exact hz1.sm (by omega) | exact hz2.sm (by omega) | exact hz3.sm (by omega) | exact Dis_Sm hz1 hz2 hz3 (by omega) | exact Dis_Sm ha hb hc (by omega)) (by first | exact hbd.1.sm (by omega) | exact hbd.2.1.sm (by omega) | exact hbd.2.2.sm (by omega) | exact hz1.sm (by omega) | exact hz2.sm (by omega) | exact hz3.sm (by omega) | exact Dis_Sm hz1 hz2 hz3 (by omega) | exact Dis_Sm ha hb hc (by omega)) (by first | exact hbd.1.sm (by omega) | exact hbd.2.1.sm (by omega) | exact hbd.2.2.sm (by omega) | exact hz1.sm (by omega) | exact hz2.sm (by omega) | exact hz3.sm (by omega) | exact Dis_Sm hz1 hz2 hz3 (by omega) | exact Dis_Sm ha hb hc (by omega))) evs.nil)) (c_quad_One A B C a1 b1_ c1 (n + n + 1) (by omega) (ha.up (by omega)) (hb.up (by omega)) (hc.up (by omega)) (by assumption) (by assumption) (by assumption))) ?_
    refine WP.s .n (O.mv rfl) ?_
    refine WP.s .n (O.ext rfl rfl) ?_
    refine WP.s .n (O.ext rfl rfl) ?_
    refine WP.s .n (O.asg rfl) ?_
    refine WP.s .n (O.asg rfl) ?_
    refine WP.nil ?_
    refine QE.next ?_
    refine CW.seq ?_
    have hO := oneV_p hp hp1
    refine ST.told 11 rfl (is_eq (y := true) (by rw [hO, hag, ← hg1]; simp)) ?_
    refine ST.told 12 rfl (is_eq (y := 0) (by rw [hO])) ?_
    refine CW.draw (Γ := [.fr ((kInt .i64).is 0), .fr (kBool.is false), .fr (kBool.is false), .fr ((kInt .i64).is 0), .fr (kBool.is false), .fr (kBool.is false), .fr (kBool.is false), .fr (kBool.is true), .fr (kBool.is false), .fr (kBool.is false), .fr (kBool.is false), .fr (VP.ex (.pointer (some ⟨b4, 0, none⟩))), .fr (kC.is a1), .fr (VP.ex (.pointer (some ⟨b2, 0, none⟩))), .fr (kC.is a1), .fr (kBool.is (decide ((canon a1) = (canon a1)))), .fr (kBool.is false), .fr (kBool.is false), .fr (kBool.is false), .fr (VP.ex (.pointer (some ⟨b4, 2, none⟩))), .fr (kC.is b1_), .fr (VP.ex (.pointer (some ⟨b2, 2, none⟩))), .fr (kC.is b1_), .fr (kBool.is (decide ((canon b1_) = (canon b1_)))), .fr (kBool.is false), .fr (kBool.is false), .fr (kBool.is false), .fr (VP.ex (.pointer (some ⟨b4, 4, none⟩))), .fr (kC.is c1), .fr (VP.ex (.pointer (some ⟨b2, 4, none⟩))), .fr (kC.is c1), .fr (kBool.is (decide ((canon c1) = (canon c1)))), .fr (kBool.is false), .fr (kBool.is false), .fr (kBool.is false), .fr ((kPair kC (kPair kC kC)).is (a1, b1_, c1)), .fr (kBool.is true), .fr (kBool.is false), .fr (kBool.is false), .fr (kBool.is false), .fr ((kPair kC (kPair kC kC)).is (a1, b1_, c1)), .fr (kC.is (b1_ * b1_ - 4 * (a1 * c1))), .fr ((kPair kZ (kPair kZ kZ)).is (A, B, C)), .fr (kC.is (B * B - 4 * (A * C))), .fr (kBool.is (decide ((canon (b1_ * b1_ - 4 * (a1 * c1))) = (canon (B * B - 4 * (A * C)))))), .fr (kBool.is false), .fr (kBool.is false)]) (lates := [false, false, false, false, false, false, false, false, false, false, false, false, false, false, false, false, false, false, false, false, false, false, false, false, false, false, false, false, false, false, false, false, false, false, false, false, false, false, false, false, false, false, false, false, false, false, false]) (by kernel_rfl) (Chk.of rfl (by kernel_rfl) rfl) (fun _ _ _ _ _ h => h) (fun q_ x_ h_ => ?_) (fun σ1 => ?_)
    · match q_, h_ with
      | 0, h_ => cases h_; exact Ob.f rfl .n fun N => (O.mv rfl)
      | 1, h_ => cases h_; exact Ob.f rfl .n fun N => (OpOk.le (O.ne rfl rfl) (is_eq rfl))
      | 2, h_ => cases h_; exact Ob.f rfl .n fun N => (O.mv rfl)
      | 3, h_ => cases h_; exact Ob.f rfl (.g rfl rfl) fun N => (O.mv rfl)
      | 4, h_ => cases h_; exact Ob.f rfl (.g rfl rfl) fun N => (OpOk.le (O.ne rfl rfl) (is_eq rfl))
      | 5, h_ => cases h_; exact Ob.f rfl .n fun N => (O.pickF rfl rfl)
      | 6, h_ => cases h_; exact Ob.f rfl .n fun N => (O.mv rfl)
      | 7, h_ => cases h_; exact Ob.f rfl (.g rfl rfl) fun N => (O.mv rfl)
      | 8, h_ => cases h_; exact Ob.f rfl (.g rfl rfl) fun N => (OpOk.le (O.not (a := true) rfl) (is_eq rfl))
      | 9, h_ => cases h_; exact Ob.f rfl .n fun N => (O.pickF rfl rfl)
      | 10, h_ => cases h_; exact Ob.f rfl .n fun N => (O.mv rfl)
      | 11, h_ => cases h_; exact Ob.f rfl (.g rfl rfl) fun N => (O.fa rfl fld26_0 rfl)
      | 12, h_ => cases h_; exact Ob.f rfl (.g rfl rfl) fun N => (O.ld (p := kC.is a1) rfl (mem_app N (mem_at 1 rfl)) (Lens.fst (Lens.id _)) ty24 rfl)
      | 13, h_ => cases h_; exact Ob.f rfl (.g rfl rfl) fun N => (O.fa rfl fld26_0 rfl)
      | 14, h_ => cases h_; exact Ob.f rfl (.g rfl rfl) fun N => (O.ld (p := kC.is a1) rfl (mem_app N (mem_at 3 rfl)) (Lens.fst (Lens.id _)) ty24 rfl)
      | 15, h_ => cases h_; exact Ob.f rfl (.g rfl rfl) fun N => (O.fn fn7 (evs.l rfl (kC_I _) (evs.l rfl (kC_I _) evs.nil)) (c_law22_eq (canon a1) (canon a1)))
      | 16, h_ => cases h_; exact Ob.f rfl (.g rfl rfl) fun N => (OpOk.le (O.not rfl) (is_eq (by simp)))
      | 17, h_ => cases h_; exact Ob.f rfl .n fun N => (O.pickF rfl rfl)
      | 18, h_ => cases h_; exact Ob.f rfl .n fun N => (O.mv rfl)
      | 19, h_ => cases h_; exact Ob.f rfl (.g rfl rfl) fun N => (O.fa rfl fld26_1 rfl)
      | 20, h_ => cases h_; exact Ob.f rfl (.g rfl rfl) fun N => (O.ld (p := kC.is b1_) rfl (mem_app N (mem_at 1 rfl)) (Lens.snd (Lens.fst (Lens.id _))) ty24 rfl)
      | 21, h_ => cases h_; exact Ob.f rfl (.g rfl rfl) fun N => (O.fa rfl fld26_1 rfl)
      | 22, h_ => cases h_; exact Ob.f rfl (.g rfl rfl) fun N => (O.ld (p := kC.is b1_) rfl (mem_app N (mem_at 3 rfl)) (Lens.snd (Lens.fst (Lens.id _))) ty24 rfl)
      | 23, h_ => cases h_; exact Ob.f rfl (.g rfl rfl) fun N => (O.fn fn7 (evs.l rfl (kC_I _) (evs.l rfl (kC_I _) evs.nil)) (c_law22_eq (canon b1_) (canon b1_)))
      | 24, h_ => cases h_; exact Ob.f rfl (.g rfl rfl) fun N => (OpOk.le (O.not rfl) (is_eq (by simp)))
      | 25, h_ => cases h_; exact Ob.f rfl .n fun N => (O.pickF rfl rfl)
      | 26, h_ => cases h_; exact Ob.f rfl .n fun N => (O.mv rfl)
      | 27, h_ => cases h_; exact Ob.f rfl (.g rfl rfl) fun N => (O.fa rfl fld26_2 rfl)
      | 28, h_ => cases h_; exact Ob.f rfl (.g rfl rfl) fun N => (O.ld (p := kC.is c1) rfl (mem_app N (mem_at 1 rfl)) (Lens.snd (Lens.snd (Lens.id _))) ty24 rfl)
      | 29, h_ => cases h_; exact Ob.f rfl (.g rfl rfl) fun N => (O.fa rfl fld26_2 rfl)
      | 30, h_ => cases h_; exact Ob.f rfl (.g rfl rfl) fun N => (O.ld (p := kC.is c1) rfl (mem_app N (mem_at 3 rfl)) (Lens.snd (Lens.snd (Lens.id _))) ty24 rfl)
      | 31, h_ => cases h_; exact Ob.f rfl (.g rfl rfl) fun N => (O.fn fn7 (evs.l rfl (kC_I _) (evs.l rfl (kC_I _) evs.nil)) (c_law22_eq (canon c1) (canon c1)))
      | 32, h_ => cases h_; exact Ob.f rfl (.g rfl rfl) fun N => (OpOk.le (O.not rfl) (is_eq (by simp)))
      | 33, h_ => cases h_; exact Ob.f rfl .n fun N => (O.pickF rfl rfl)
      | 34, h_ => cases h_; exact Ob.f rfl .n fun N => (O.mv rfl)
      | 35, h_ => cases h_; exact Ob.f rfl (.g rfl rfl) fun N => (O.ld (p := (kPair kC (kPair kC kC)).is (a1, b1_, c1)) rfl (mem_app N (mem_at 3 rfl)) (Lens.id _) ty26 rfl)
      | 36, h_ => cases h_; exact Ob.f rfl (.g rfl rfl) fun N => (O.fn fn8 (evs.l rfl (c3_z3 (by first | exact hbd.1.sm (by omega) | exact hbd.2.1.sm (by omega) | exact hbd.2.2.sm (by omega) | exact hz1.sm (by omega) | exact hz2.sm (by omega) | exact hz3.sm (by omega) | exact Dis_Sm hz1 hz2 hz3 (by omega) | exact Dis_Sm ha hb hc (by omega)) (by first | exact hbd.1.sm (by omega) | exact hbd.2.1.sm (by omega) | exact hbd.2.2.sm (by omega) | exact hz1.sm (by omega) | exact hz2.sm (by omega) | exact hz3.sm (by omega) | exact Dis_Sm hz1 hz2 hz3 (by omega) | exact Dis_Sm ha hb hc (by omega)) (by first | exact hbd.1.sm (by omega) | exact hbd.2.1.sm (by omega) | exact hbd.2.2.sm (by omega) | exact hz1.sm (by omega) | exact hz2.sm (by omega) | exact hz3.sm (by omega) | exact Dis_Sm hz1 hz2 hz3 (by omega) | exact Dis_Sm ha hb hc (by omega))) evs.nil) (c_law22_reduced a1 b1_ c1 hRL (hz2.sm (by omega))))
      | 37, h_ => cases h_; exact Ob.f rfl (.g rfl rfl) fun N => (OpOk.le (O.not (a := true) rfl) (is_eq rfl))
      | 38, h_ => cases h_; exact Ob.f rfl .n fun N => (O.pickF rfl rfl)
      | 39, h_ => cases h_; exact Ob.f rfl .n fun N => (O.mv rfl)
      | 40, h_ => cases h_; exact Ob.f rfl (.g rfl rfl) fun N => (O.ld (p := (kPair kC (kPair kC kC)).is (a1, b1_, c1)) rfl (mem_app N (mem_at 3 rfl)) (Lens.id _) ty26 rfl)
      | 41, h_ => cases h_; exact Ob.f rfl (.g rfl rfl) fun N => (O.fn fn9 (evs.l rfl (c3_z3 (by first | exact hbd.1.sm (by omega) | exact hbd.2.1.sm (by omega) | exact hbd.2.2.sm (by omega) | exact hz1.sm (by omega) | exact hz2.sm (by omega) | exact hz3.sm (by omega) | exact Dis_Sm hz1 hz2 hz3 (by omega) | exact Dis_Sm ha hb hc (by omega)) (by first | exact hbd.1.sm (by omega) | exact hbd.2.1.sm (by omega) | exact hbd.2.2.sm (by omega) | exact hz1.sm (by omega) | exact hz2.sm (by omega) | exact hz3.sm (by omega) | exact Dis_Sm hz1 hz2 hz3 (by omega) | exact Dis_Sm ha hb hc (by omega)) (by first | exact hbd.1.sm (by omega) | exact hbd.2.1.sm (by omega) | exact hbd.2.2.sm (by omega) | exact hz1.sm (by omega) | exact hz2.sm (by omega) | exact hz3.sm (by omega) | exact Dis_Sm hz1 hz2 hz3 (by omega) | exact Dis_Sm ha hb hc (by omega))) evs.nil) (c_law22_disc a1 b1_ c1 (DiS_of hz1 hz2 hz3 (by omega))))
      | 42, h_ => cases h_; exact Ob.f rfl (.g rfl rfl) fun N => (O.ld (p := (kPair kZ (kPair kZ kZ)).is (A, B, C)) rfl (mem_app N (mem_at 4 rfl)) (Lens.id _) ty26 rfl)
      | 43, h_ => cases h_; exact Ob.f rfl (.g rfl rfl) fun N => (O.fn fn9 (evs.c rfl evs.nil) (c_law22_disc A B C (DiS_of ha hb hc (by omega))))
      | 44, h_ => cases h_; exact Ob.f rfl (.g rfl rfl) fun N => (O.fn fn7 (evs.l rfl (kC_I _) (evs.l rfl (kC_I _) evs.nil)) (c_law22_eq (canon (b1_ * b1_ - 4 * (a1 * c1))) (canon (B * B - 4 * (A * C)))))
      | 45, h_ => cases h_; exact Ob.f rfl (.g rfl rfl) fun N => (OpOk.le (O.not rfl) (is_eq (by rw [show b1_ * b1_ - 4 * (a1 * c1) = B * B - 4 * (A * C) from hDD]; simp)))
      | 46, h_ => cases h_; exact Ob.f rfl .n fun N => (O.pickF rfl rfl)
      | n_ + 47, h_ => simp at h_
    refine WP.nil ?_
    refine QE.next ?_
    refine CW.condF rfl ?_
    refine CW.skip ?_
    refine QE.next ?_
    refine CW.seq ?_
    refine ST.oimp (OImp.ix [4] (by decide) rfl) ?_
    refine CW.region ?_
    refine WP.s .n (O.mv rfl) ?_
    refine WP.s .n (O.fn fn10 (evs.c rfl evs.nil) (c_quad_Classes d)) ?_
    refine WP.s .n (O.mv rfl) ?_
    refine WP.s .n (O.ext rfl rfl) ?_
    refine WP.s .n (O.ext rfl rfl) ?_
    refine WP.s .n (O.asg rfl) ?_
    refine WP.s .n (O.asg rfl) ?_
    refine WP.nil ?_
    refine QE.next ?_
    refine CW.seq ?_
    refine CW.seq ?_
    refine CW.region ?_
    refine WP.s .n (O.mv rfl) ?_
    refine WP.s .n (O.ne rfl rfl) ?_
    refine WP.nil ?_
    refine QE.next ?_
    refine CW.condD rfl (fun h_t90 => ?_) (fun h_t90 => ?_)
    · refine CW.seq ?_
      have hcd := clV_bad h_t90
      refine CW.region ?_
      refine WP.s .n (O.mv rfl) ?_
      refine WP.s .n (O.lenS rfl Try.underlying37) ?_
      refine WP.s .n (O.eq rfl rfl) ?_
      refine WP.s .n (O.asg rfl) ?_
      refine WP.nil ?_
      refine QE.next ?_
      refine CW.ret ?_
      refine QE.thenR ?_
      exact QE.done (.inl rfl) rfl (ResOk.tl rfl (is_eq (y := true) (by first | rfl | assumption | (simp; done) | (simp; assumption) | (rw [hcl.2.1]; simp; done) | (simp; omega))) ResOk.nil) (OImp.sub (List.nil_sublist _)) ⟨rfl, rfl⟩
    · have hd : ¬ (0 ≤ d ∨ d < -20000 ∨ 1 < (d.tmod 4 + 4).tmod 4) := clV_good h_t90
      have hV := clV_2 hd
      have hln := listT_len2 d
      have hl0 := listT_pos hd
      refine ST.told 13 rfl (is_eq (y := (listT d)) (by rw [hV])) ?_
      refine CW.skip ?_
      refine QE.next ?_
      refine CW.seq ?_
      refine CW.seq ?_
      refine CW.region ?_
      refine WP.s .n (O.asg rfl) ?_
      refine WP.nil ?_
      refine QE.next ?_
      refine CW.block ?_
      refine CW.loop (fun (i : Nat) => i ≤ (listT d).length) (fun (i : Nat) => [(1, (kInt .i64).is d), (13, (kSl (kPair kC (kPair kC kC))).is (listT d)), (14, (kInt .i64).is (i : Int))]) (fun (i : Nat) => [OB.box b1 26 (kPair kZ (kPair kZ kZ)) (A, B, C)]) (fun (i : Nat) => (listT d).length - i) 0 (by omega) (Imp.cons rfl (Imp.cons rfl (Imp.consLe rfl (is_eq (y := (0 : Int)) (by first | rfl | assumption | (simp; done) | (simp; assumption) | (rw [hcl.2.1]; simp; done) | (simp; omega))) Imp.nil))) (OImp.refl _) ?_
      intro i hi
      refine CW.seq ?_
      refine CW.seq ?_
      refine CW.region ?_
      refine WP.s .n (O.mv rfl) ?_
      refine WP.s .n (O.mv rfl) ?_
      refine WP.s .n (O.lenS rfl Try.underlying37) ?_
      refine WP.s .n (O.lt rfl rfl) ?_
      refine WP.nil ?_
      refine QE.next ?_
      refine CW.condD rfl (fun h_t97 => ?_) (fun h_t97 => ?_)
      · obtain ⟨hcl, hbd⟩ := cls_at hd (show i < (listT d).length by omega)
        refine CW.skip ?_
        refine QE.next ?_
        refine CW.seq ?_
        refine CW.block ?_
        refine CW.seq ?_
        refine CW.region ?_
        refine WP.s .n (O.mv rfl) ?_
        refine WP.s .n (O.mv rfl) ?_
        refine WP.s .n (O.ix i rfl rfl Try.underlying37 ty26 rfl (v := ((listT d).getD i (0, (0, 0)))) (gd (0, (0, 0)) (by omega))) ?_
        refine WP.s .n (O.ldP rfl ty26) ?_
        refine WP.s .n (O.fn fn8 (evs.l rfl (c3_z3 (by first | exact hbd.1.sm (by omega) | exact hbd.2.1.sm (by omega) | exact hbd.2.2.sm (by omega) | exact hz1.sm (by omega) | exact hz2.sm (by omega) | exact hz3.sm (by omega) | exact Dis_Sm hz1 hz2 hz3 (by omega) | exact Dis_Sm ha hb hc (by omega)) (by first | exact hbd.1.sm (by omega) | exact hbd.2.1.sm (by omega) | exact hbd.2.2.sm (by omega) | exact hz1.sm (by omega) | exact hz2.sm (by omega) | exact hz3.sm (by omega) | exact Dis_Sm hz1 hz2 hz3 (by omega) | exact Dis_Sm ha hb hc (by omega)) (by first | exact hbd.1.sm (by omega) | exact hbd.2.1.sm (by omega) | exact hbd.2.2.sm (by omega) | exact hz1.sm (by omega) | exact hz2.sm (by omega) | exact hz3.sm (by omega) | exact Dis_Sm hz1 hz2 hz3 (by omega) | exact Dis_Sm ha hb hc (by omega))) evs.nil) (c_law22_reduced (((listT d).getD i (0, (0, 0))).1) ((((listT d).getD i (0, (0, 0))).2).1) ((((listT d).getD i (0, (0, 0))).2).2) hcl.1 (hbd.2.1.sm (by omega)))) ?_
        refine WP.s .n (O.not (a := true) rfl) ?_
        refine WP.s .n (O.mv rfl) ?_
        refine WP.s (.g rfl rfl) (O.mv rfl) ?_
        refine WP.s (.g rfl rfl) (O.mv rfl) ?_
        refine WP.s (.g rfl rfl) (O.ix i rfl rfl Try.underlying37 ty26 rfl (v := ((listT d).getD i (0, (0, 0)))) (gd (0, (0, 0)) (by omega))) ?_
        refine WP.s (.g rfl rfl) (O.ldP rfl ty26) ?_
        refine WP.s (.g rfl rfl) (O.fn fn9 (evs.l rfl (c3_z3 (by first | exact hbd.1.sm (by omega) | exact hbd.2.1.sm (by omega) | exact hbd.2.2.sm (by omega) | exact hz1.sm (by omega) | exact hz2.sm (by omega) | exact hz3.sm (by omega) | exact Dis_Sm hz1 hz2 hz3 (by omega) | exact Dis_Sm ha hb hc (by omega)) (by first | exact hbd.1.sm (by omega) | exact hbd.2.1.sm (by omega) | exact hbd.2.2.sm (by omega) | exact hz1.sm (by omega) | exact hz2.sm (by omega) | exact hz3.sm (by omega) | exact Dis_Sm hz1 hz2 hz3 (by omega) | exact Dis_Sm ha hb hc (by omega)) (by first | exact hbd.1.sm (by omega) | exact hbd.2.1.sm (by omega) | exact hbd.2.2.sm (by omega) | exact hz1.sm (by omega) | exact hz2.sm (by omega) | exact hz3.sm (by omega) | exact Dis_Sm hz1 hz2 hz3 (by omega) | exact Dis_Sm ha hb hc (by omega))) evs.nil) (c_law22_disc (((listT d).getD i (0, (0, 0))).1) ((((listT d).getD i (0, (0, 0))).2).1) ((((listT d).getD i (0, (0, 0))).2).2) (DiS_of hbd.1 hbd.2.1 hbd.2.2 (by omega)))) ?_
        refine WP.s (.g rfl rfl) (O.mv rfl) ?_
        refine WP.s (.g rfl rfl) (O.fn fn11 (evs.l rfl (i64_int (by omega)) evs.nil) (c_zint_Of d)) ?_
        refine WP.s (.g rfl rfl) (O.fn fn7 (evs.l rfl (kC_I _) (evs.l rfl (kC_I _) evs.nil)) (c_law22_eq (canon (((((listT d).getD i (0, (0, 0))).2).1) * ((((listT d).getD i (0, (0, 0))).2).1) - 4 * ((((listT d).getD i (0, (0, 0))).1) * ((((listT d).getD i (0, (0, 0))).2).2)))) (canon d))) ?_
        refine WP.s (.g rfl rfl) (O.not rfl) ?_
        refine WP.s .n (O.pickF rfl rfl) ?_
        refine WP.nil ?_
        refine QE.next ?_
        refine CW.cond rfl (fun h => Bool.noConfusion ((h.symm.trans (show (!(decide ((canon (((((listT d).getD i (0, (0, 0))).2).1) * ((((listT d).getD i (0, (0, 0))).2).1) - 4 * ((((listT d).getD i (0, (0, 0))).1) * ((((listT d).getD i (0, (0, 0))).2).2)))) = (canon d)))) = false from (by rw [hcl.2.1]; simp))) : true = false)) (fun h_t116 => ?_)
        refine CW.skip ?_
        refine QE.blkN ?_
        refine QE.next ?_
        refine CW.region ?_
        refine WP.s .n (O.mv rfl) ?_
        refine WP.s .n (O.add rfl rfl (c := ((i : Int) + 1)) (w64 (by omega))) ?_
        refine WP.s .n (O.asg rfl) ?_
        refine WP.nil ?_
        exact QE.round (i + 1) (by omega) (by omega) (Imp.cons rfl (Imp.cons rfl (Imp.consLe rfl (is_eq (y := (((i + 1) : Nat) : Int)) (by first | rfl | assumption | (simp; done) | (simp; assumption) | (rw [hcl.2.1]; simp; done) | (simp; omega))) Imp.nil))) (OImp.refl _)
      · refine CW.exit ?_
        refine QE.thenE ?_
        refine QE.thenE ?_
        refine QE.blkH ?_
        refine QE.next ?_
        refine CW.seq ?_
        refine CW.region ?_
        refine WP.s .n (O.mv rfl) ?_
        refine WP.s .n (O.lenS rfl Try.underlying37) ?_
        refine WP.s .n (O.gt rfl rfl) ?_
        refine WP.s .n (O.asg rfl) ?_
        refine WP.nil ?_
        refine QE.next ?_
        refine CW.ret ?_
        exact QE.done (.inl rfl) rfl (ResOk.tl rfl (is_eq (y := true) (by first | rfl | assumption | (simp; done) | (simp; assumption) | (rw [hcl.2.1]; simp; done) | (simp; omega))) ResOk.nil) (OImp.sub (List.nil_sublist _)) ⟨rfl, rfl⟩
  · refine CW.skip ?_
    refine QE.next ?_
    refine CW.seq ?_
    refine ST.oimp (OImp.ix [2] (by decide) rfl) ?_
    refine CW.region ?_
    refine WP.s .n (O.mv rfl) ?_
    refine WP.s .n (O.fn fn10 (evs.c rfl evs.nil) (c_quad_Classes d)) ?_
    refine WP.s .n (O.mv rfl) ?_
    refine WP.s .n (O.ext rfl rfl) ?_
    refine WP.s .n (O.ext rfl rfl) ?_
    refine WP.s .n (O.asg rfl) ?_
    refine WP.s .n (O.asg rfl) ?_
    refine WP.nil ?_
    refine QE.next ?_
    refine CW.seq ?_
    refine CW.seq ?_
    refine CW.region ?_
    refine WP.s .n (O.mv rfl) ?_
    refine WP.s .n (O.ne rfl rfl) ?_
    refine WP.nil ?_
    refine QE.next ?_
    refine CW.condD rfl (fun h_t90 => ?_) (fun h_t90 => ?_)
    · refine CW.seq ?_
      have hcd := clV_bad h_t90
      refine CW.region ?_
      refine WP.s .n (O.mv rfl) ?_
      refine WP.s .n (O.lenS rfl Try.underlying37) ?_
      refine WP.s .n (O.eq rfl rfl) ?_
      refine WP.s .n (O.asg rfl) ?_
      refine WP.nil ?_
      refine QE.next ?_
      refine CW.ret ?_
      refine QE.thenR ?_
      exact QE.done (.inl rfl) rfl (ResOk.tl rfl (is_eq (y := true) (by first | rfl | assumption | (simp; done) | (simp; assumption) | (rw [hcl.2.1]; simp; done) | (simp; omega))) ResOk.nil) (OImp.sub (List.nil_sublist _)) ⟨rfl, rfl⟩
    · have hd : ¬ (0 ≤ d ∨ d < -20000 ∨ 1 < (d.tmod 4 + 4).tmod 4) := clV_good h_t90
      have hV := clV_2 hd
      have hln := listT_len2 d
      have hl0 := listT_pos hd
      refine ST.told 13 rfl (is_eq (y := (listT d)) (by rw [hV])) ?_
      refine CW.skip ?_
      refine QE.next ?_
      refine CW.seq ?_
      refine CW.seq ?_
      refine CW.region ?_
      refine WP.s .n (O.asg rfl) ?_
      refine WP.nil ?_
      refine QE.next ?_
      refine CW.block ?_
      refine CW.loop (fun (i : Nat) => i ≤ (listT d).length) (fun (i : Nat) => [(1, (kInt .i64).is d), (13, (kSl (kPair kC (kPair kC kC))).is (listT d)), (14, (kInt .i64).is (i : Int))]) (fun (i : Nat) => [OB.box b1 26 (kPair kZ (kPair kZ kZ)) (A, B, C)]) (fun (i : Nat) => (listT d).length - i) 0 (by omega) (Imp.cons rfl (Imp.cons rfl (Imp.consLe rfl (is_eq (y := (0 : Int)) (by first | rfl | assumption | (simp; done) | (simp; assumption) | (rw [hcl.2.1]; simp; done) | (simp; omega))) Imp.nil))) (OImp.refl _) ?_
      intro i hi
      refine CW.seq ?_
      refine CW.seq ?_
      refine CW.region ?_
      refine WP.s .n (O.mv rfl) ?_
      refine WP.s .n (O.mv rfl) ?_
      refine WP.s .n (O.lenS rfl Try.underlying37) ?_
      refine WP.s .n (O.lt rfl rfl) ?_
      refine WP.nil ?_
      refine QE.next ?_
      refine CW.condD rfl (fun h_t97 => ?_) (fun h_t97 => ?_)
      · obtain ⟨hcl, hbd⟩ := cls_at hd (show i < (listT d).length by omega)
        refine CW.skip ?_
        refine QE.next ?_
        refine CW.seq ?_
        refine CW.block ?_
        refine CW.seq ?_
        refine CW.region ?_
        refine WP.s .n (O.mv rfl) ?_
        refine WP.s .n (O.mv rfl) ?_
        refine WP.s .n (O.ix i rfl rfl Try.underlying37 ty26 rfl (v := ((listT d).getD i (0, (0, 0)))) (gd (0, (0, 0)) (by omega))) ?_
        refine WP.s .n (O.ldP rfl ty26) ?_
        refine WP.s .n (O.fn fn8 (evs.l rfl (c3_z3 (by first | exact hbd.1.sm (by omega) | exact hbd.2.1.sm (by omega) | exact hbd.2.2.sm (by omega) | exact hz1.sm (by omega) | exact hz2.sm (by omega) | exact hz3.sm (by omega) | exact Dis_Sm hz1 hz2 hz3 (by omega) | exact Dis_Sm ha hb hc (by omega)) (by first | exact hbd.1.sm (by omega) | exact hbd.2.1.sm (by omega) | exact hbd.2.2.sm (by omega) | exact hz1.sm (by omega) | exact hz2.sm (by omega) | exact hz3.sm (by omega) | exact Dis_Sm hz1 hz2 hz3 (by omega) | exact Dis_Sm ha hb hc (by omega)) (by first | exact hbd.1.sm (by omega) | exact hbd.2.1.sm (by omega) | exact hbd.2.2.sm (by omega) | exact hz1.sm (by omega) | exact hz2.sm (by omega) | exact hz3.sm (by omega) | exact Dis_Sm hz1 hz2 hz3 (by omega) | exact Dis_Sm ha hb hc (by omega))) evs.nil) (c_law22_reduced (((listT d).getD i (0, (0, 0))).1) ((((listT d).getD i (0, (0, 0))).2).1) ((((listT d).getD i (0, (0, 0))).2).2) hcl.1 (hbd.2.1.sm (by omega)))) ?_
        refine WP.s .n (O.not (a := true) rfl) ?_
        refine WP.s .n (O.mv rfl) ?_
        refine WP.s (.g rfl rfl) (O.mv rfl) ?_
        refine WP.s (.g rfl rfl) (O.mv rfl) ?_
        refine WP.s (.g rfl rfl) (O.ix i rfl rfl Try.underlying37 ty26 rfl (v := ((listT d).getD i (0, (0, 0)))) (gd (0, (0, 0)) (by omega))) ?_
        refine WP.s (.g rfl rfl) (O.ldP rfl ty26) ?_
        refine WP.s (.g rfl rfl) (O.fn fn9 (evs.l rfl (c3_z3 (by first | exact hbd.1.sm (by omega) | exact hbd.2.1.sm (by omega) | exact hbd.2.2.sm (by omega) | exact hz1.sm (by omega) | exact hz2.sm (by omega) | exact hz3.sm (by omega) | exact Dis_Sm hz1 hz2 hz3 (by omega) | exact Dis_Sm ha hb hc (by omega)) (by first | exact hbd.1.sm (by omega) | exact hbd.2.1.sm (by omega) | exact hbd.2.2.sm (by omega) | exact hz1.sm (by omega) | exact hz2.sm (by omega) | exact hz3.sm (by omega) | exact Dis_Sm hz1 hz2 hz3 (by omega) | exact Dis_Sm ha hb hc (by omega)) (by first | exact hbd.1.sm (by omega) | exact hbd.2.1.sm (by omega) | exact hbd.2.2.sm (by omega) | exact hz1.sm (by omega) | exact hz2.sm (by omega) | exact hz3.sm (by omega) | exact Dis_Sm hz1 hz2 hz3 (by omega) | exact Dis_Sm ha hb hc (by omega))) evs.nil) (c_law22_disc (((listT d).getD i (0, (0, 0))).1) ((((listT d).getD i (0, (0, 0))).2).1) ((((listT d).getD i (0, (0, 0))).2).2) (DiS_of hbd.1 hbd.2.1 hbd.2.2 (by omega)))) ?_
        refine WP.s (.g rfl rfl) (O.mv rfl) ?_
        refine WP.s (.g rfl rfl) (O.fn fn11 (evs.l rfl (i64_int (by omega)) evs.nil) (c_zint_Of d)) ?_
        refine WP.s (.g rfl rfl) (O.fn fn7 (evs.l rfl (kC_I _) (evs.l rfl (kC_I _) evs.nil)) (c_law22_eq (canon (((((listT d).getD i (0, (0, 0))).2).1) * ((((listT d).getD i (0, (0, 0))).2).1) - 4 * ((((listT d).getD i (0, (0, 0))).1) * ((((listT d).getD i (0, (0, 0))).2).2)))) (canon d))) ?_
        refine WP.s (.g rfl rfl) (O.not rfl) ?_
        refine WP.s .n (O.pickF rfl rfl) ?_
        refine WP.nil ?_
        refine QE.next ?_
        refine CW.cond rfl (fun h => Bool.noConfusion ((h.symm.trans (show (!(decide ((canon (((((listT d).getD i (0, (0, 0))).2).1) * ((((listT d).getD i (0, (0, 0))).2).1) - 4 * ((((listT d).getD i (0, (0, 0))).1) * ((((listT d).getD i (0, (0, 0))).2).2)))) = (canon d)))) = false from (by rw [hcl.2.1]; simp))) : true = false)) (fun h_t116 => ?_)
        refine CW.skip ?_
        refine QE.blkN ?_
        refine QE.next ?_
        refine CW.region ?_
        refine WP.s .n (O.mv rfl) ?_
        refine WP.s .n (O.add rfl rfl (c := ((i : Int) + 1)) (w64 (by omega))) ?_
        refine WP.s .n (O.asg rfl) ?_
        refine WP.nil ?_
        exact QE.round (i + 1) (by omega) (by omega) (Imp.cons rfl (Imp.cons rfl (Imp.consLe rfl (is_eq (y := (((i + 1) : Nat) : Int)) (by first | rfl | assumption | (simp; done) | (simp; assumption) | (rw [hcl.2.1]; simp; done) | (simp; omega))) Imp.nil))) (OImp.refl _)
      · refine CW.exit ?_
        refine QE.thenE ?_
        refine QE.thenE ?_
        refine QE.blkH ?_
        refine QE.next ?_
        refine CW.seq ?_
        refine CW.region ?_
        refine WP.s .n (O.mv rfl) ?_
        refine WP.s .n (O.lenS rfl Try.underlying37) ?_
        refine WP.s .n (O.gt rfl rfl) ?_
        refine WP.s .n (O.asg rfl) ?_
        refine WP.nil ?_
        refine QE.next ?_
        refine CW.ret ?_
        exact QE.done (.inl rfl) rfl (ResOk.tl rfl (is_eq (y := true) (by first | rfl | assumption | (simp; done) | (simp; assumption) | (rw [hcl.2.1]; simp; done) | (simp; omega))) ResOk.nil) (OImp.sub (List.nil_sublist _)) ⟨rfl, rfl⟩

end Fw


/- Proved: QuadReduced, for every input of bulk at most 1048576; no other condition. -/
set_option linter.unusedVariables false
namespace Go.Proofs.Ytjbfmocbophmlaa.quadReduced
open Go.ChangeShapes Go.WideShapes Go.ChangeAt Go.RowKit Fw
theorem rd24 : Rd Try.prog 24 kZ ZB := rd_Z (rd_struct (fs := [_, _]) Try.underlying24 (by kernel_rfl) (rdf_cons rfl (by kernel_rfl) (rd_bool Try.underlying4) rfl (rdf_last rfl (by kernel_rfl) (rd_sl Try.underlying22 (by kernel_rfl) (by decide) (rd_limb Try.underlying50)))))
theorem rd26 : Rd Try.prog 26 (kPair kZ (kPair kZ kZ)) (fun x => ZB x.1 ∧ (fun x => ZB x.1 ∧ ZB x.2) x.2) := rd_struct (fs := [_, _, _]) Try.underlying26 (by kernel_rfl) (rdf_cons rfl (by kernel_rfl) rd24 rfl (rdf_cons rfl (by kernel_rfl) rd24 rfl (rdf_last rfl (by kernel_rfl) rd24)))
theorem rd3 : Rd Try.prog 3 kI64 (fun _ => True) := rd_i64 Try.underlying3
theorem own : ownKnob Try.prog.godebug = none := by kernel_rfl
theorem laidOut : laidOutB Try.prog = true := by kernel_rfl
set_option maxRecDepth 100000 in
theorem contract (H : Type) (enc : TypeId × Value → H) (W : World) (base : Nat) (args : Array Value) (ds gs : List (DataW H)) (before : List MemPlace)
    (hval : ∀ (j : Nat) t v, Try.f3.params[j]? = some t → args[j]? = some v → Value.okWide Try.prog W .any base t v)
    (hW : DataW.Whole enc Try.prog Try.f3.params.toList Rows.quadReducedSpec.vars false W args.toList ds gs before) (hk : Rows.uptoSmall H (ds ++ gs) = true) :
    Calls Try.prog 3 args W fun e W' => ∃ v, e = .returned v ∧ Rows.quadReducedSpec.post enc Try.prog Try.f3 false true false false W args v W' := by
  have hW' := hW
  obtain ⟨p, q, hA0, hV, rfl, hfz, hnd⟩ := hW
  have hA : DataW.TrodAll enc Try.prog W 0 (fun _ => true) true Try.f3.params.toList args.toList ds p := hA0
  rw [Try.params3] at hA hval
  obtain ⟨rfl, rfl⟩ := trodVars_none hV
  unfold Rows.uptoSmall at hk
  have hbulk := of_decide_eq_true hk
  rw [List.append_nil] at hbulk
  obtain ⟨v0, vs0, d0, ds0, p0, q0, hargs, rfl, rfl, h0, r0⟩ := trodAll_cons hA
  obtain ⟨v1, vs1, d1, ds1, p1, q1, rfl, rfl, rfl, h1, r1⟩ := trodAll_cons r0
  obtain ⟨rfl, rfl, rfl⟩ := trodAll_nil r1
  obtain rfl : args = [v0, v1].toArray := by cases args; simp_all
  simp only [Rows.uptoBulkAll] at hbulk
  obtain ⟨x0, a0, b0⟩ := arg_agg Try.underlying26 rfl rd26 (hval 0 26 v0 rfl rfl) h0 (by unfold uptoN; omega)
  obtain ⟨x1, a1, b1⟩ := arg_i64 Try.underlying3 (hval 1 3 v1 rfl rfl) h1
  refine ((c_law22_QuadReduced x0.1 x0.2.1 x0.2.2 x1 33554432 (by decide) (Exists.elim (ZB_lt b0.1) fun n h => Sz.up (n := n) h.2 h.1) (Exists.elim (ZB_lt b0.2.1) fun n h => Sz.up (n := n) h.2 h.1) (Exists.elim (ZB_lt b0.2.2) fun n h => Sz.up (n := n) h.2 h.1)).calls (vs := [v0, v1]) ⟨a0, i64_le _ _ _ a1, trivial⟩).mono fun e W' ⟨he, bel⟩ => ?_
  subst he
  exact ⟨_, rfl, _, _, _, [], _, [], hW', trodAll_mk1 (shut_bool Try.underlying4 _), below_all laidOut bel (by kernel_rfl) hA0 (fun x hx => by simpa using hW'.lt x (by simpa using hx)), rfl, bel.frame _, fun h => by cases h⟩
set_option maxRecDepth 100000 in
theorem lifted (os : Os) (started : os.Started) (H : Type) (enc : TypeId × Value → H) (F : Stop.Interp) :
    ReturnsInHanded {} Try.checked os 3 .any ((Rows.OpenSpec.upto Rows.quadReducedSpec).pre6 enc Try.prog Try.f3 Rows.quadReducedUptoRow.domain false) (((Rows.OpenSpec.upto Rows.quadReducedSpec).at F).post enc Try.prog Try.f3 false true false false) := by
  refine returnsInHanded_of_cond (C := Try.checked) (s := Rows.OpenSpec.upto Rows.quadReducedSpec) (k := Rows.uptoSmall) rfl own started (by kernel_rfl) Try.func3
    (OpenSpec.witness (enc := enc) (C := Try.checked) (s := Rows.OpenSpec.upto Rows.quadReducedSpec) (k := Rows.uptoSmall) rfl false ⟨#[], #[.agg #[.bool false, .slice none 0 0, .bool false, .slice none 0 0, .bool false, .slice none 0 0], .int .i64 0], []⟩ 8 (by kernel_rfl) (by kernel_rfl) (by kernel_rfl)
      (x := ([.agg [.agg [.lit (.bool false), .nil], .agg [.lit (.bool false), .nil], .agg [.lit (.bool false), .nil]], .lit (.int .i64 0)], [], [])) (by kernel_rfl) rfl (by kernel_rfl)) ?_
  intro W base args ds gs before hval hW _ hk _
  exact contract H enc W base args ds gs before hval hW hk
theorem over : Rows.quadReducedUptoRow.holds Try.pinned (Rows.OpenSpec.upto Rows.quadReducedSpec) :=
  OpenClaim.holds_of_cond 3 Try.f3 rfl rfl rfl rfl rfl rfl rfl ⟨rfl, rfl, rfl, rfl, rfl⟩ rfl rfl rfl rfl rfl (by kernel_rfl) Try.func3 (by kernel_rfl)
    (of_decide_eq_true (by kernel_rfl)) (by unfold Func.isWrapper; first | (rw [if_pos (by decide +kernel)]; kernel_rfl) | (rw [if_neg (by decide +kernel)]; exact ⟨rfl, rfl⟩))
    (fun os started H enc _ F => lifted os started H enc F)
theorem proved : Rows.QuadReducedUptoSaid := over
end Go.Proofs.Ytjbfmocbophmlaa.quadReduced
