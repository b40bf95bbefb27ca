/- Frame, facts and contracts for QuadValues. -/
import Derived.Test.YtgbafijcklgajaaCQuadValuesD
/- Combinations of rows: what the functions answer. -/
set_option linter.unusedVariables false
set_option linter.unusedSimpArgs false
set_option exponentiation.threshold 400
namespace Fw
open Go Go.Proofs

set_option maxRecDepth 20000 in
set_option maxHeartbeats 1000000 in
theorem c_mat_combine (n : Nat) (x : List Int) (b : List (List Int)) (hx : SzL n x) (hb : SzM n b) (hr : RectL b) (hl : b.length ≤ x.length) (hn : n + n + b.length ≤ 549755813000) : Fn Try.prog 141 [(kSl kZ).is x, (kSl (kSl kZ)).is b] ((kSl kC).is (combV x b)) := by
  refine Con.enter Try.func141 rfl rfl fun m w => ?_
  refine ST.fact (i := 0) rfl sl_len fun hA => ?_
  refine ST.fact (i := 1) rfl sl_len fun hB => ?_
  refine CW.seq ?_
  refine CW.region ?_
  refine WP.s .n (O.asg rfl) ?_
  refine WP.nil ?_
  refine QE.next ?_
  refine CW.seq ?_
  refine CW.seq ?_
  refine CW.region ?_
  refine WP.s .n (O.mv rfl) ?_
  refine WP.s .n (O.lenS rfl Try.underlying67) ?_
  refine WP.s .n (O.eq rfl rfl) ?_
  refine WP.nil ?_
  refine QE.next ?_
  refine CW.condD rfl (fun h_t12 => ?_) (fun h_t12 => ?_)
  · refine CW.seq ?_
    refine ST.told (q := (kSl kC).is (combV x b)) 4 rfl (VP.le_trans (nil_le _) (is_eq (combV_nil x (by omega)).symm)) ?_
    refine CW.region ?_
    refine WP.s .n (O.asg rfl) ?_
    refine WP.nil ?_
    refine QE.next ?_
    refine CW.ret ?_
    refine QE.thenR ?_
    refine ST.told (q := (kSl kC).is (combV x b)) 4 rfl (VP.le_trans (nil_le _) (is_eq (combV_nil x (by omega)).symm)) ?_
    exact QE.done (.inl rfl) rfl (ResOk.t rfl ResOk.nil) (OImp.sub (List.nil_sublist _)) ⟨rfl, rfl⟩
  · refine CW.skip ?_
    refine QE.next ?_
    refine CW.seq ?_
    refine CW.region ?_
    refine WP.s .n (O.mv rfl) ?_
    refine WP.s .n (O.ix 0 rfl rfl Try.underlying67 ty27 rfl (v := (b.getD 0 [])) (gd [] (by (first | omega | (simp only [combP_len]; have := hr i (by omega); omega))))) ?_
    refine WP.s .n (O.ldP rfl ty27) ?_
    refine ST.fact (i := 15) rfl sl_len fun hlr => ?_
    refine WP.s .n (O.lenS rfl Try.underlying27) ?_
    refine WP.mk ((b.getD 0 []).length) .n rfl rfl rfl (by (first | omega | (simp only [combP_len]; have := hr i (by omega); omega))) Try.underlying27 el31_C z31_C fun v1 => ?_
    refine WP.s .n (O.asg rfl) ?_
    refine WP.nil ?_
    refine QE.next ?_
    refine CW.seq ?_
    refine CW.seq ?_
    refine CW.region ?_
    refine WP.s .n (O.mv rfl) ?_
    refine WP.s .n (O.lenS rfl Try.underlying67) ?_
    refine WP.s .n (O.mv rfl) ?_
    refine WP.nil ?_
    refine QE.next ?_
    refine CW.block ?_
    refine ST.obtold 0 rfl (OB.row_eq (ys := (combP x b 0 0)) (combP_zero x b).symm) ?_
    refine CW.loop (fun (i : Nat) => i ≤ b.length) (fun (i : Nat) => [(0, (kSl kZ).is x), (1, (kSl (kSl kZ)).is b), (5, VP.ex v1), (18, (kSl (kSl kZ)).is b), (19, (kInt .i64).is (b.length : Int)), (20, (kInt .i64).is (i : Int))]) (fun (i : Nat) => [OB.row v1 31 kC (combP x b i 0)]) (fun (i : Nat) => b.length - i) 0 (by omega) (Imp.cons rfl (Imp.cons rfl (Imp.cons rfl (Imp.cons rfl (Imp.cons rfl (Imp.consLe rfl (is_eq (y := (0 : Int)) (by first | rfl | omega | assumption)) Imp.nil)))))) (OImp.refl _) ?_
    intro i hi
    refine CW.seq ?_
    refine CW.region ?_
    refine WP.s .n (O.lt rfl rfl) ?_
    refine WP.nil ?_
    refine QE.next ?_
    refine CW.seq ?_
    refine CW.condD rfl (fun h_t21 => ?_) (fun h_t21 => ?_)
    · refine CW.skip ?_
      refine QE.next ?_
      refine CW.seq ?_
      refine CW.block ?_
      refine CW.seq ?_
      refine CW.region ?_
      refine WP.s .n (O.mv rfl) ?_
      refine WP.s .n (O.ix i rfl rfl Try.underlying67 ty27 rfl (v := (b.getD i [])) (gd [] (by (first | omega | (simp only [combP_len]; have := hr i (by omega); omega))))) ?_
      refine WP.s .n (O.ldP rfl ty27) ?_
      refine WP.s .n (O.asg rfl) ?_
      refine WP.s .n (O.asg rfl) ?_
      refine WP.nil ?_
      refine QE.next ?_
      refine CW.seq ?_
      refine CW.region ?_
      refine ST.fact (i := 7) rfl sl_len fun hlk => ?_
      refine WP.s .n (O.mv rfl) ?_
      refine WP.s .n (O.lenS rfl Try.underlying27) ?_
      refine WP.s .n (O.mv rfl) ?_
      refine WP.nil ?_
      refine QE.next ?_
      refine CW.block ?_
      refine CW.loop (fun (k : Nat) => k ≤ (b.getD i []).length) (fun (k : Nat) => [(0, (kSl kZ).is x), (1, (kSl (kSl kZ)).is b), (5, VP.ex v1), (6, (kInt .i64).is (i : Int)), (7, (kSl kZ).is (b.getD i [])), (18, (kSl (kSl kZ)).is b), (19, (kInt .i64).is (b.length : Int)), (20, (kInt .i64).is (i : Int)), (25, (kSl kZ).is (b.getD i [])), (26, (kInt .i64).is ((b.getD i []).length : Int)), (27, (kInt .i64).is (k : Int))]) (fun (k : Nat) => [OB.row v1 31 kC (combP x b i k)]) (fun (k : Nat) => (b.getD i []).length - k) 0 (by omega) (Imp.cons rfl (Imp.cons rfl (Imp.cons rfl (Imp.cons rfl (Imp.cons rfl (Imp.cons rfl (Imp.cons rfl (Imp.cons rfl (Imp.cons rfl (Imp.cons rfl (Imp.consLe rfl (is_eq (y := (0 : Int)) (by first | rfl | omega | assumption)) Imp.nil))))))))))) (OImp.refl _) ?_
      intro k hk
      refine CW.seq ?_
      refine CW.region ?_
      refine WP.s .n (O.lt rfl rfl) ?_
      refine WP.nil ?_
      refine QE.next ?_
      refine CW.seq ?_
      refine CW.condD rfl (fun h_t28 => ?_) (fun h_t28 => ?_)
      · refine CW.skip ?_
        refine QE.next ?_
        refine CW.seq ?_
        refine CW.block ?_
        refine CW.seq ?_
        refine CW.region ?_
        refine WP.s .n (O.mv rfl) ?_
        refine WP.s .n (O.ix k rfl rfl Try.underlying27 ty31 rfl (v := ((b.getD i []).getD k 0)) (gd 0 (by (first | omega | (simp only [combP_len]; have := hr i (by omega); omega))))) ?_
        refine WP.s .n (O.ldP rfl ty31) ?_
        refine WP.al .n z31_C fun b2 => ?_
        refine WP.s .n (O.asg rfl) ?_
        refine WP.t .n (O.stW (l := kZ) (u := ((b.getD i []).getD k 0)) 0 rfl rfl rfl ty31 rfl (VP.le_refl _)) ?_
        refine WP.nil ?_
        refine QE.next ?_
        refine CW.draw (Γ := [.fr (VP.ex v1), .fr ((kInt .i64).is (k : Int)), .fr (VP.ex v1), .fr ((kInt .i64).is (k : Int)), .fr (VP.pel v1 (k * 2)), .fr (kC.is (combN x b k i)), .fr ((kSl kZ).is x), .fr ((kInt .i64).is (i : Int)), .fr (VP.pim kZ (x.getD i 0)), .fr (kZ.is (x.getD i 0)), .fr (kZ.is ((b.getD i []).getD k 0)), .fr (kC.is ((x.getD i 0) * ((b.getD i []).getD k 0))), .fr (kC.is ((combN x b k i) + ((x.getD i 0) * ((b.getD i []).getD k 0)))), .fr (VP.pel v1 (k * 2))]) (lates := [false, false, false, false, false, false, false, false, false, false, false, false, false, false]) (by kernel_rfl) (Chk.of rfl (by kernel_rfl) rfl) (fun _ _ _ _ _ h => h) (fun q_ x_ h_ => ?_) (fun σ1 => ?_)
        · match q_, h_ with
          | 0, h_ => cases h_; exact Ob.f rfl .n fun N => (O.mv rfl)
          | 1, h_ => cases h_; exact Ob.f rfl .n fun N => (O.mv rfl)
          | 2, h_ => cases h_; exact Ob.f rfl .n fun N => (O.mv rfl)
          | 3, h_ => cases h_; exact Ob.f rfl .n fun N => (O.mv rfl)
          | 4, h_ => cases h_; exact Ob.f rfl .n fun N => (O.ixR (k := kC) (xs := (combP x b i k)) (n := (k : Int)) k rfl rfl (mem_app N (mem_at 1 rfl)) Try.underlying27 ty31 rfl (by (first | omega | (simp only [combP_len]; have := hr i (by omega); omega))))
          | 5, h_ => cases h_; exact Ob.f rfl .n fun N => (O.ldR (k := kC) (xs := (combP x b i k)) k rfl (mem_app N (mem_at 1 rfl)) (Lens.id _) (ho := rfl) (y := (combN x b k i)) (combP_at (by have := hr i (by omega); omega)) ty31 rfl)
          | 6, h_ => cases h_; exact Ob.f rfl .n fun N => (O.mv rfl)
          | 7, h_ => cases h_; exact Ob.f rfl .n fun N => (O.mv rfl)
          | 8, h_ => cases h_; exact Ob.f rfl .n fun N => (O.ix i rfl rfl Try.underlying27 ty31 rfl (v := (x.getD i 0)) (gd 0 (by (first | omega | (simp only [combP_len]; have := hr i (by omega); omega)))))
          | 9, h_ => cases h_; exact Ob.f rfl .n fun N => (O.ldP rfl ty31)
          | 10, h_ => cases h_; exact Ob.f rfl .n fun N => (O.ld rfl (mem_app N (mem_at 0 rfl)) (Lens.id _) ty31 rfl)
          | 11, h_ => cases h_; exact Ob.f rfl .n fun N => (O.fn fn76 (evs.c rfl (evs.c rfl evs.nil)) (c_zint_Mul (x.getD i 0) ((b.getD i []).getD k 0)))
          | 12, h_ => cases h_; exact Ob.f rfl .n fun N => (O.fn fn77 (evs.l rfl (kC_Z (by first | exact (hx i).sm (by omega) | exact (hb i k).sm (by omega) | exact (combN_Sz hx hb k i).sm (by omega) | exact ((hx i).mul (hb i k)).sm (by omega))) (evs.l rfl (kC_Z (by first | exact (hx i).sm (by omega) | exact (hb i k).sm (by omega) | exact (combN_Sz hx hb k i).sm (by omega) | exact ((hx i).mul (hb i k)).sm (by omega))) evs.nil)) (c_zint_Add (combN x b k i) ((x.getD i 0) * ((b.getD i []).getD k 0))))
          | 13, h_ => cases h_; exact Ob.f rfl .n fun N => (O.ixR (k := kC) (xs := (combP x b i k)) (n := (k : Int)) k rfl rfl (mem_app N (mem_at 1 rfl)) Try.underlying27 ty31 rfl (by (first | omega | (simp only [combP_len]; have := hr i (by omega); omega))))
          | n_ + 14, h_ => simp at h_
        refine WP.t .n (O.stR 1 k rfl rfl (Lens.id _) rfl (y0 := ((combP x b i k).getD k 0)) (gd 0 (by (first | omega | (simp only [combP_len]; have := hr i (by omega); omega)))) ty31 rfl (VP.le_refl _)) ?_
        refine WP.nil ?_
        refine QE.blkN ?_
        refine QE.next ?_
        refine CW.region ?_
        refine WP.s .n (O.add rfl rfl (c := ((k : Int) + 1)) (w64 (by omega))) ?_
        refine WP.s .n (O.mv rfl) ?_
        refine WP.nil ?_
        refine ST.obtold 1 rfl (OB.row_eq (ys := (combP x b i (k + 1))) (combP_set (by have := hr i (by omega); omega))) ?_
        exact QE.round (k + 1) (by omega) (by omega) (Imp.cons rfl (Imp.cons rfl (Imp.cons rfl (Imp.cons rfl (Imp.cons rfl (Imp.cons rfl (Imp.cons rfl (Imp.cons rfl (Imp.cons rfl (Imp.cons rfl (Imp.consLe rfl (is_eq (y := (((k + 1) : Nat) : Int)) (by first | rfl | omega | assumption)) Imp.nil))))))))))) (OImp.os (OS.skip (OS.keep OS.nil)))
      · refine CW.exit ?_
        refine QE.thenE ?_
        refine QE.thenE ?_
        refine QE.blkH ?_
        refine QE.blkN ?_
        refine QE.next ?_
        refine CW.region ?_
        refine WP.s .n (O.add rfl rfl (c := ((i : Int) + 1)) (w64 (by omega))) ?_
        refine WP.s .n (O.mv rfl) ?_
        refine WP.nil ?_
        refine ST.obtold 0 rfl (OB.row_eq (ys := (combP x b (i + 1) 0)) (combP_row (by have := hr i (by omega); omega))) ?_
        exact QE.round (i + 1) (by omega) (by omega) (Imp.cons rfl (Imp.cons rfl (Imp.cons rfl (Imp.cons rfl (Imp.cons rfl (Imp.consLe rfl (is_eq (y := (((i + 1) : Nat) : Int)) (by first | rfl | omega | assumption)) Imp.nil)))))) (OImp.refl _)
    · refine CW.exit ?_
      refine QE.thenE ?_
      refine QE.thenE ?_
      refine QE.blkH ?_
      refine QE.next ?_
      refine CW.seq ?_
      refine CW.region ?_
      refine WP.s .n (O.mv rfl) ?_
      refine WP.s .n (O.asg rfl) ?_
      refine WP.nil ?_
      refine QE.next ?_
      refine CW.ret ?_
      refine ST.freeze 0 rfl (.keep (i := 0) rfl (.keep (i := 1) rfl (.hit (i := 4) rfl (.hit (i := 5) rfl (.keep (i := 18) rfl (.keep (i := 19) rfl (.keep (i := 20) rfl (.keep (i := 21) rfl (.hit (i := 48) rfl .nil))))))))) ?_
      refine ST.told 4 rfl (is_eq (y := (combV x b)) (by rw [show i = b.length by omega, combP_end])) ?_
      exact QE.done (.inl rfl) rfl (ResOk.t rfl ResOk.nil) (OImp.sub (List.nil_sublist _)) ⟨rfl, rfl⟩

set_option maxRecDepth 20000 in
set_option maxHeartbeats 1000000 in
theorem c_mat_Combine (n : Nat) (x : List Int) (b : List (List Int)) (hx : SzL n x) (hb : SzM n b) (hn : n + n + b.length ≤ 549755813000) : Fn Try.prog 69 [(kSl kZ).is x, (kSl (kSl kZ)).is b] (VP.tup [(kSl kC).is (combA x b), (kInt .i64).is (combE x b)]) := by
  refine Con.enter Try.func69 rfl rfl fun m w => ?_
  refine ST.fact (i := 0) rfl sl_len fun hA => ?_
  refine ST.fact (i := 1) rfl sl_len fun hB => ?_
  refine CW.seq ?_
  refine CW.region ?_
  refine WP.s .n (O.asg rfl) ?_
  refine WP.s .n (O.asg rfl) ?_
  refine WP.nil ?_
  refine QE.next ?_
  refine CW.seq ?_
  refine CW.region ?_
  refine WP.s .n (O.mv rfl) ?_
  refine WP.s .n (O.fn fn135 (evs.c rfl evs.nil) (c_mat_Shape b)) ?_
  refine WP.s .n (O.mv rfl) ?_
  refine WP.s .n (O.ext rfl rfl) ?_
  refine WP.s .n (O.ext rfl rfl) ?_
  refine WP.s .n (O.ext rfl rfl) ?_
  refine WP.s .n (O.asg rfl) ?_
  refine WP.s .n (O.asg rfl) ?_
  refine WP.s .n (O.asg rfl) ?_
  refine WP.nil ?_
  refine QE.next ?_
  refine CW.seq ?_
  refine CW.seq ?_
  refine CW.region ?_
  refine WP.s .n (O.mv rfl) ?_
  refine WP.s .n (O.ne rfl rfl) ?_
  refine WP.s .n (O.mv rfl) ?_
  refine WP.splitD 17 rfl (fun h_t17 => ?_) (fun h_t17 => ?_)
  · have hno : ¬ combOk x b := fun h => not_rect_of_shE h_t17 h.1
    refine WP.ku (b := true) rfl rfl ?_
    refine WP.ku (b := true) rfl rfl ?_
    refine WP.ku (b := true) rfl rfl ?_
    refine WP.ku (b := true) rfl rfl ?_
    refine WP.s .n (O.pickT rfl rfl) ?_
    refine WP.nil ?_
    refine QE.next ?_
    refine CW.condT rfl ?_
    refine CW.seq ?_
    refine CW.region ?_
    refine WP.s .n (O.asg rfl) ?_
    refine WP.s .n (O.asg rfl) ?_
    refine WP.nil ?_
    refine QE.next ?_
    refine CW.ret ?_
    refine QE.thenR ?_
    refine ST.told (q := (kSl kC).is (combA x b)) 4 rfl (VP.le_trans (nil_le _) (is_eq (comb_no hno).1.symm)) ?_
    refine ST.told 5 rfl (is_eq (y := (combE x b)) (comb_no hno).2.symm) ?_
    exact QE.done (.inl rfl) rfl (ResOk.t rfl (ResOk.t rfl ResOk.nil)) (OImp.sub (List.nil_sublist _)) ⟨rfl, rfl⟩
  · refine WP.s (.g rfl rfl) (O.mv rfl) ?_
    refine WP.s (.g rfl rfl) (O.lenS rfl Try.underlying27) ?_
    refine WP.s (.g rfl rfl) (O.mv rfl) ?_
    refine WP.s (.g rfl rfl) (O.ne rfl rfl) ?_
    refine WP.s .n (O.pickF rfl rfl) ?_
    refine WP.nil ?_
    refine QE.next ?_
    refine CW.condD rfl (fun h_t22 => ?_) (fun h_t22 => ?_)
    · refine CW.seq ?_
      refine CW.region ?_
      refine WP.s .n (O.asg rfl) ?_
      refine WP.s .n (O.asg rfl) ?_
      refine WP.nil ?_
      refine QE.next ?_
      refine CW.ret ?_
      refine QE.thenR ?_
      have hno : ¬ combOk x b := fun h => h_t22 (by rw [h.2]; unfold shN; rw [if_pos h.1])
      refine ST.told (q := (kSl kC).is (combA x b)) 4 rfl (VP.le_trans (nil_le _) (is_eq (comb_no hno).1.symm)) ?_
      refine ST.told 5 rfl (is_eq (y := (combE x b)) (comb_no hno).2.symm) ?_
      exact QE.done (.inl rfl) rfl (ResOk.t rfl (ResOk.t rfl ResOk.nil)) (OImp.sub (List.nil_sublist _)) ⟨rfl, rfl⟩
    · refine CW.skip ?_
      refine QE.next ?_
      refine CW.seq ?_
      have hok : combOk x b := ⟨rect_of_shE h_t17, by have h := h_t22; unfold shN at h; rw [if_pos (rect_of_shE h_t17)] at h; omega⟩
      refine CW.region ?_
      refine WP.s .n (O.mv rfl) ?_
      refine WP.s .n (O.mv rfl) ?_
      refine WP.s .n (O.fn fn141 (evs.c rfl (evs.c rfl evs.nil)) (c_mat_combine n x b (by first | assumption | exact rectL hok.1 | (have := hok.2; omega)) (by first | assumption | exact rectL hok.1 | (have := hok.2; omega)) (by first | assumption | exact rectL hok.1 | (have := hok.2; omega)) (by first | assumption | exact rectL hok.1 | (have := hok.2; omega)) (by first | assumption | exact rectL hok.1 | (have := hok.2; omega)))) ?_
      refine WP.s .n (O.asg rfl) ?_
      refine WP.s .n (O.asg rfl) ?_
      refine WP.nil ?_
      refine QE.next ?_
      refine CW.ret ?_
      refine ST.told 4 rfl (is_eq (y := (combA x b)) (comb_yes hok).1) ?_
      refine ST.told 5 rfl (is_eq (y := (combE x b)) (comb_yes hok).2.symm) ?_
      exact QE.done (.inl rfl) rfl (ResOk.t rfl (ResOk.t rfl ResOk.nil)) (OImp.sub (List.nil_sublist _)) ⟨rfl, rfl⟩

set_option maxRecDepth 20000 in
set_option maxHeartbeats 1000000 in
theorem c_ref04_Combine (n : Nat) (x : List Int) (b : List (List Int)) (hx : SzL n x) (hb : SzM n b) (hn : n + n + b.length ≤ 549755813000) : Fn Try.prog 122 [(kSl kZ).is x, (kSl (kSl kZ)).is b] (VP.tup [(kSl kC).is (combA x b), (kInt .i64).is (combE x b)]) := by
  refine Con.enter Try.func122 rfl rfl fun m w => ?_
  refine ST.fact (i := 0) rfl sl_len fun hA => ?_
  refine ST.fact (i := 1) rfl sl_len fun hB => ?_
  refine CW.seq ?_
  refine CW.region ?_
  refine WP.s .n (O.asg rfl) ?_
  refine WP.s .n (O.asg rfl) ?_
  refine WP.nil ?_
  refine QE.next ?_
  refine CW.seq ?_
  refine CW.region ?_
  refine WP.s .n (O.mv rfl) ?_
  refine WP.s .n (O.fn fn172 (evs.c rfl evs.nil) (c_ref04_Shape b)) ?_
  refine WP.s .n (O.mv rfl) ?_
  refine WP.s .n (O.ext rfl rfl) ?_
  refine WP.s .n (O.ext rfl rfl) ?_
  refine WP.s .n (O.ext rfl rfl) ?_
  refine WP.s .n (O.asg rfl) ?_
  refine WP.s .n (O.asg rfl) ?_
  refine WP.s .n (O.asg rfl) ?_
  refine WP.nil ?_
  refine QE.next ?_
  refine CW.seq ?_
  refine CW.seq ?_
  refine CW.region ?_
  refine WP.s .n (O.mv rfl) ?_
  refine WP.s .n (O.ne rfl rfl) ?_
  refine WP.s .n (O.mv rfl) ?_
  refine WP.splitD 21 rfl (fun h_t21 => ?_) (fun h_t21 => ?_)
  · refine WP.ku (b := true) rfl rfl ?_
    refine WP.ku (b := true) rfl rfl ?_
    refine WP.ku (b := true) rfl rfl ?_
    refine WP.ku (b := true) rfl rfl ?_
    refine WP.ku (b := true) rfl rfl ?_
    refine WP.s .n (O.pickT rfl rfl) ?_
    refine WP.nil ?_
    refine QE.next ?_
    refine CW.condT rfl ?_
    refine CW.seq ?_
    refine CW.region ?_
    refine WP.s .n (O.asg rfl) ?_
    refine WP.s .n (O.asg rfl) ?_
    refine WP.nil ?_
    refine QE.next ?_
    refine CW.ret ?_
    refine QE.thenR ?_
    have hno : ¬ combOk x b := fun h => not_rect_of_shE h_t21 h.1
    refine ST.told (q := (kSl kC).is (combA x b)) 4 rfl (VP.le_trans (nil_le _) (is_eq (comb_no hno).1.symm)) ?_
    refine ST.told 5 rfl (is_eq (y := (combE x b)) (comb_no hno).2.symm) ?_
    exact QE.done (.inl rfl) rfl (ResOk.t rfl (ResOk.t rfl ResOk.nil)) (OImp.sub (List.nil_sublist _)) ⟨rfl, rfl⟩
  · refine WP.s (.g rfl rfl) (O.mv rfl) ?_
    refine WP.s (.g rfl rfl) (O.lenS rfl Try.underlying27) ?_
    refine WP.s (.g rfl rfl) (O.mv rfl) ?_
    refine WP.s (.g rfl rfl) (O.lenS rfl Try.underlying67) ?_
    refine WP.s (.g rfl rfl) (O.ne rfl rfl) ?_
    refine WP.s .n (O.pickF rfl rfl) ?_
    refine WP.nil ?_
    refine QE.next ?_
    refine CW.condD rfl (fun h_t27 => ?_) (fun h_t27 => ?_)
    · refine CW.seq ?_
      refine CW.region ?_
      refine WP.s .n (O.asg rfl) ?_
      refine WP.s .n (O.asg rfl) ?_
      refine WP.nil ?_
      refine QE.next ?_
      refine CW.ret ?_
      refine QE.thenR ?_
      have hno : ¬ combOk x b := fun h => h_t27 (by rw [h.2])
      refine ST.told (q := (kSl kC).is (combA x b)) 4 rfl (VP.le_trans (nil_le _) (is_eq (comb_no hno).1.symm)) ?_
      refine ST.told 5 rfl (is_eq (y := (combE x b)) (comb_no hno).2.symm) ?_
      exact QE.done (.inl rfl) rfl (ResOk.t rfl (ResOk.t rfl ResOk.nil)) (OImp.sub (List.nil_sublist _)) ⟨rfl, rfl⟩
    · refine CW.skip ?_
      refine QE.next ?_
      refine CW.seq ?_
      have hok : combOk x b := ⟨rect_of_shE h_t21, by have h := h_t27; omega⟩
      have hr := rectL hok.1
      refine ST.fact (i := 1) rfl slsl_len fun hlc => ?_
      have hlc0 := hlc 0
      refine ST.told 7 rfl (is_eq (y := ((b.getD 0 []).length : Int)) (by unfold shM; rw [if_pos hok.1])) ?_
      refine CW.region ?_
      refine WP.s .n (O.asg rfl) ?_
      refine WP.nil ?_
      refine QE.next ?_
      refine CW.seq ?_
      refine CW.seq ?_
      refine CW.region ?_
      refine WP.s .n (O.asg rfl) ?_
      refine WP.nil ?_
      refine QE.next ?_
      refine CW.block ?_
      refine ST.nilrow 31 kC ?_
      refine CW.loop2 (fun (k : Nat) (v : Value) => k ≤ (b.getD 0 []).length) (fun (k : Nat) (v : Value) => [(0, (kSl kZ).is x), (1, (kSl (kSl kZ)).is b), (7, (kInt .i64).is ((b.getD 0 []).length : Int)), (9, VP.ex v), (10, (kInt .i64).is (k : Int))]) (fun (k : Nat) (v : Value) => [OB.row v 31 kC ((combV x b).take k)]) (fun (k : Nat) (v : Value) => (b.getD 0 []).length - k) 0 (.slice none 0 0) (by omega) (Imp.cons rfl (Imp.cons rfl (Imp.cons rfl (Imp.cons rfl (Imp.consLe rfl (is_eq (y := (0 : Int)) (by first | rfl | omega | assumption)) Imp.nil))))) (OImp.os (OS.keepLe (OB.row_eq (by first | rfl | omega | assumption)) OS.nil)) ?_
      intro k v hk
      refine CW.seq ?_
      refine CW.seq ?_
      have hcl : (combV x b).length = (b.getD 0 []).length := combV_len x b
      have hct : ((combV x b).take k).length = k := by rw [List.length_take]; omega
      refine CW.region ?_
      refine WP.s .n (O.mv rfl) ?_
      refine WP.s .n (O.mv rfl) ?_
      refine WP.s .n (O.lt rfl rfl) ?_
      refine WP.nil ?_
      refine QE.next ?_
      refine CW.condD rfl (fun h_t30 => ?_) (fun h_t30 => ?_)
      · refine CW.skip ?_
        refine QE.next ?_
        refine CW.seq ?_
        refine CW.block ?_
        refine CW.seq ?_
        refine CW.region ?_
        refine WP.s .n (O.fn fn78 (evs.l rfl (i64_int (by omega)) evs.nil) (c_ref02_Of 0)) ?_
        refine WP.al .n z31_C fun b1 => ?_
        refine WP.t .n (O.stW (l := kC) (u := 0) 0 rfl rfl rfl ty31 rfl (VP.le_refl _)) ?_
        refine WP.nil ?_
        refine QE.next ?_
        refine CW.seq ?_
        refine CW.seq ?_
        refine CW.region ?_
        refine WP.s .n (O.asg rfl) ?_
        refine WP.nil ?_
        refine QE.next ?_
        refine CW.block ?_
        refine CW.loop (fun (i : Nat) => i ≤ b.length) (fun (i : Nat) => [(0, (kSl kZ).is x), (1, (kSl (kSl kZ)).is b), (7, (kInt .i64).is ((b.getD 0 []).length : Int)), (9, VP.ex v), (10, (kInt .i64).is (k : Int)), (11, VP.ex (.pointer (some ⟨b1, 0, none⟩))), (12, (kInt .i64).is (i : Int))]) (fun (i : Nat) => [OB.box b1 31 kC (combN x b k i), OB.row v 31 kC ((combV x b).take k)]) (fun (i : Nat) => b.length - i) 0 (by omega) (Imp.cons rfl (Imp.cons rfl (Imp.cons rfl (Imp.cons rfl (Imp.cons rfl (Imp.cons rfl (Imp.consLe rfl (is_eq (y := (0 : Int)) (by first | rfl | omega | assumption)) Imp.nil))))))) (OImp.os (OS.keepLe (OB.box_eq (by first | rfl | omega | assumption)) (OS.keep OS.nil))) ?_
        intro i hi
        refine CW.seq ?_
        refine CW.seq ?_
        refine CW.region ?_
        refine WP.s .n (O.mv rfl) ?_
        refine WP.s .n (O.mv rfl) ?_
        refine WP.s .n (O.lenS rfl Try.underlying67) ?_
        refine WP.s .n (O.lt rfl rfl) ?_
        refine WP.nil ?_
        refine QE.next ?_
        refine CW.condD rfl (fun h_t37 => ?_) (fun h_t37 => ?_)
        · refine CW.skip ?_
          refine QE.next ?_
          refine CW.seq ?_
          refine CW.block ?_
          refine CW.draw (Γ := [.fr (kC.is (combN x b k i)), .fr ((kSl kZ).is x), .fr ((kInt .i64).is (i : Int)), .fr (VP.pim kZ (x.getD i 0)), .fr (kZ.is (x.getD i 0)), .fr ((kSl (kSl kZ)).is b), .fr ((kInt .i64).is (i : Int)), .fr (VP.pim (kSl kZ) (b.getD i [])), .fr ((kSl kZ).is (b.getD i [])), .fr ((kInt .i64).is (k : Int)), .fr (VP.pim kZ ((b.getD i []).getD k 0)), .fr (kZ.is ((b.getD i []).getD k 0)), .fr (kC.is ((x.getD i 0) * ((b.getD i []).getD k 0))), .fr (kC.is ((combN x b k i) + ((x.getD i 0) * ((b.getD i []).getD k 0))))]) (lates := [false, false, false, false, false, false, false, false, false, false, false, false, false, false]) (by kernel_rfl) (Chk.of rfl (by kernel_rfl) rfl) (fun _ _ _ _ _ h => h) (fun q_ x_ h_ => ?_) (fun σ1 => ?_)
          · match q_, h_ with
            | 0, h_ => cases h_; exact Ob.f rfl .n fun N => (O.ld rfl (mem_app N (mem_at 0 rfl)) (Lens.id _) ty31 rfl)
            | 1, h_ => cases h_; exact Ob.f rfl .n fun N => (O.mv rfl)
            | 2, h_ => cases h_; exact Ob.f rfl .n fun N => (O.mv rfl)
            | 3, h_ => cases h_; exact Ob.f rfl .n fun N => (O.ix i rfl rfl Try.underlying27 ty31 rfl (v := (x.getD i 0)) (gd 0 (by (first | omega | (have := hr i (by omega); omega)))))
            | 4, h_ => cases h_; exact Ob.f rfl .n fun N => (O.ldP rfl ty31)
            | 5, h_ => cases h_; exact Ob.f rfl .n fun N => (O.mv rfl)
            | 6, h_ => cases h_; exact Ob.f rfl .n fun N => (O.mv rfl)
            | 7, h_ => cases h_; exact Ob.f rfl .n fun N => (O.ix i rfl rfl Try.underlying67 ty27 rfl (v := (b.getD i [])) (gd [] (by (first | omega | (have := hr i (by omega); omega)))))
            | 8, h_ => cases h_; exact Ob.f rfl .n fun N => (O.ldP rfl ty27)
            | 9, h_ => cases h_; exact Ob.f rfl .n fun N => (O.mv rfl)
            | 10, h_ => cases h_; exact Ob.f rfl .n fun N => (O.ix k rfl rfl Try.underlying27 ty31 rfl (v := ((b.getD i []).getD k 0)) (gd 0 (by (first | omega | (have := hr i (by omega); omega)))))
            | 11, h_ => cases h_; exact Ob.f rfl .n fun N => (O.ldP rfl ty31)
            | 12, h_ => cases h_; exact Ob.f rfl .n fun N => (O.fn fn91 (evs.c rfl (evs.c rfl evs.nil)) (c_ref02_Mul (x.getD i 0) ((b.getD i []).getD k 0)))
            | 13, h_ => cases h_; exact Ob.f rfl .n fun N => (O.fn fn79 (evs.l rfl (kC_Z (by first | exact (hx i).sm (by omega) | exact (hb i k).sm (by omega) | exact (combN_Sz hx hb k i).sm (by omega) | exact ((hx i).mul (hb i k)).sm (by omega))) (evs.l rfl (kC_Z (by first | exact (hx i).sm (by omega) | exact (hb i k).sm (by omega) | exact (combN_Sz hx hb k i).sm (by omega) | exact ((hx i).mul (hb i k)).sm (by omega))) evs.nil)) (c_ref02_Add (combN x b k i) ((x.getD i 0) * ((b.getD i []).getD k 0))))
            | n_ + 14, h_ => simp at h_
          refine WP.t .n (O.stW (l := kC) (u := (combN x b k i) + ((x.getD i 0) * ((b.getD i []).getD k 0))) 0 rfl rfl rfl ty31 rfl (VP.le_refl _)) ?_
          refine WP.nil ?_
          refine QE.blkN ?_
          refine QE.next ?_
          refine CW.region ?_
          refine WP.s .n (O.mv rfl) ?_
          refine WP.s .n (O.add rfl rfl (c := ((i : Int) + 1)) (w64 (by omega))) ?_
          refine WP.s .n (O.asg rfl) ?_
          refine WP.nil ?_
          refine ST.obtold 0 rfl (OB.box_eq (y := (combN x b k (i + 1))) rfl) ?_
          exact QE.round (i + 1) (by omega) (by omega) (Imp.cons rfl (Imp.cons rfl (Imp.cons rfl (Imp.cons rfl (Imp.cons rfl (Imp.cons rfl (Imp.consLe rfl (is_eq (y := (((i + 1) : Nat) : Int)) (by first | rfl | omega | assumption)) Imp.nil))))))) (OImp.refl _)
        · refine CW.exit ?_
          refine QE.thenE ?_
          refine QE.thenE ?_
          refine QE.blkH ?_
          refine QE.next ?_
          refine CW.region ?_
          refine WP.s .n (O.mv rfl) ?_
          refine WP.s .n (O.ld rfl (mem_at 0 rfl) (Lens.id _) ty31 rfl) ?_
          refine WP.s .n (O.bs Try.underlying27 el31_C (evl.c rfl evl.n) rfl (by decide)) ?_
          refine WP.ap 1 .n rfl rfl rfl (VP.le_refl _) Try.underlying27 el31_C (by (simp only [List.length_cons, List.length_nil]; omega)) fun v2 => ?_
          refine WP.s .n (O.asg rfl) ?_
          refine WP.nil ?_
          refine QE.blkN ?_
          refine QE.next ?_
          refine CW.region ?_
          refine WP.s .n (O.mv rfl) ?_
          refine WP.s .n (O.add rfl rfl (c := ((k : Int) + 1)) (w64 (by omega))) ?_
          refine WP.s .n (O.asg rfl) ?_
          refine WP.nil ?_
          refine ST.obtold 1 rfl (OB.row_eq (ys := ((combV x b).take (k + 1))) (by rw [show i = b.length by omega]; exact combV_app (by omega))) ?_
          exact QE.round2 (k + 1) v2 (by omega) (by omega) (Imp.cons rfl (Imp.cons rfl (Imp.cons rfl (Imp.cons rfl (Imp.consLe rfl (is_eq (y := (((k + 1) : Nat) : Int)) (by first | rfl | omega | assumption)) Imp.nil))))) (OImp.os (OS.skip (OS.keep OS.nil)))
      · refine CW.exit ?_
        refine QE.thenE ?_
        refine QE.thenE ?_
        refine QE.blkH ?_
        refine QE.next ?_
        refine CW.seq ?_
        refine CW.region ?_
        refine WP.s .n (O.mv rfl) ?_
        refine WP.s .n (O.asg rfl) ?_
        refine WP.s .n (O.asg rfl) ?_
        refine WP.nil ?_
        refine QE.next ?_
        refine CW.ret ?_
        refine ST.freeze 0 rfl (.keep (i := 0) rfl (.keep (i := 1) rfl (.hit (i := 4) rfl (.keep (i := 5) rfl (.keep (i := 7) rfl (.hit (i := 9) rfl (.keep (i := 10) rfl (.keep (i := 28) rfl (.keep (i := 29) rfl (.keep (i := 30) rfl (.hit (i := 58) rfl .nil))))))))))) ?_
        refine ST.told 4 rfl (is_eq (y := (combA x b)) (by rw [List.take_of_length_le (by omega)]; exact (comb_yes hok).1)) ?_
        refine ST.told 5 rfl (is_eq (y := (combE x b)) (comb_yes hok).2.symm) ?_
        exact QE.done (.inl rfl) rfl (ResOk.t rfl (ResOk.t rfl ResOk.nil)) (OImp.sub (List.nil_sublist _)) ⟨rfl, rfl⟩

end Fw


/- Gram-Schmidt data: what the program answers. -/
set_option linter.unusedVariables false
set_option linter.unusedSimpArgs false
set_option exponentiation.threshold 400
namespace Fw
open Go Go.Proofs

end Fw


/- Plain facts: what rows may be; Gram-Schmidt data as fractions. -/
set_option linter.unusedVariables false
set_option linter.unusedSimpArgs false
set_option exponentiation.threshold 400
namespace Fw
open Go

section
variable {C : Ctx} {Q : Exit → Act → World → Prop} {ρ ρ' : Env} {L L' : List OB}
end

/-! ### Which rows may be -/
def bigN (b : List (List Int)) (bits : Bool) (i : Nat) : Bool := (decide ((12 : Int) < (b.length : Int)) || (bits && decide ((256 : Int) < mbits b))) || (b.take i).any (fun r => decide ((12 : Int) < (r.length : Int)))
theorem bigN_T {b bits} (h : (12 : Int) < (b.length : Int)) : true = bigN b bits 0 := by simp [bigN]; left; omega
theorem bigN_bT {b} (h : ¬ (12 : Int) < (b.length : Int)) : decide ((256 : Int) < mbits b) = bigN b true 0 := by simp [bigN]; omega
theorem bigN_succ {b bits i} (h : i < b.length) : bigN b bits (i + 1) = (bigN b bits i || decide ((12 : Int) < ((b.getD i []).length : Int))) := by
  unfold bigN
  rw [← take_app (d := []) h, List.any_append]
  simp [Bool.or_assoc]
theorem bigN_no {b bits} (h : ¬ bigN b bits b.length = true) : b.length ≤ 12 ∧ (bits = true → mbits b ≤ 256) ∧ ∀ i, (b.getD i []).length ≤ 12 := by
  unfold bigN at h
  simp only [List.take_length, Bool.or_eq_true, Bool.and_eq_true, decide_eq_true_eq, List.any_eq_true, not_or, not_and, not_exists] at h
  obtain ⟨⟨h1, h2⟩, h3⟩ := h
  refine ⟨by omega, fun hb => by have := h2 hb; omega, fun i => ?_⟩
  by_cases hi : i < b.length
  · have := h3 (b.getD i []) (by rw [gde _ [] hi]; exact List.getElem_mem hi); omega
  · have e : b.getD i [] = [] := by simp [List.getD, Nat.le_of_not_lt hi]
    rw [e]; simp
theorem vbN_le {c : Int} {v : List Int} : ∀ {n : Int}, n ≤ c → (∀ x ∈ v, (bitlen x.natAbs : Int) ≤ c) → vbN n v ≤ c := by
  induction v with
  | nil => intro n h _; exact h
  | cons x v ih =>
    intro n h hx
    refine ih (n := vbF n x) ?_ (fun y hy => hx y (List.mem_cons_of_mem _ hy))
    have := hx x (by simp)
    unfold vbF
    omega
theorem mb_ge : ∀ (b : List (List Int)) (n : Int), n ≤ b.foldl vbN n
  | [], n => Int.le_refl n
  | r :: b, n => Int.le_trans (vbN_ge n r) (mb_ge b (vbN n r))
theorem mb_mem : ∀ {b : List (List Int)} {n : Int} {r : List Int} {x : Int}, r ∈ b → x ∈ r → (bitlen x.natAbs : Int) ≤ b.foldl vbN n
  | s :: b, n, r, x, h, hx => by
    rcases List.mem_cons.1 h with e | h
    · subst e; exact Int.le_trans (vbN_mem hx) (mb_ge b _)
    · exact mb_mem (b := b) (n := vbN n s) h hx
theorem mb_le {c : Int} : ∀ {b : List (List Int)} {n : Int}, n ≤ c → (∀ r ∈ b, ∀ x ∈ r, (bitlen x.natAbs : Int) ≤ c) → b.foldl vbN n ≤ c
  | [], n, h, _ => h
  | r :: b, n, h, hx => mb_le (b := b) (vbN_le h (hx r (by simp))) (fun s hs => hx s (List.mem_cons_of_mem _ hs))
theorem getD_mem {α : Type} {l : List α} {i : Nat} (d : α) (h : i < l.length) : l.getD i d ∈ l := by rw [gde l d h]; exact List.getElem_mem h
theorem mem_getD {α : Type} {l : List α} {x : α} (d : α) (h : x ∈ l) : ∃ i, i < l.length ∧ l.getD i d = x := by
  obtain ⟨i, hi, rfl⟩ := List.getElem_of_mem h
  exact ⟨i, hi, gde l d hi⟩
theorem mbits_Sz {b : List (List Int)} {c : Nat} (h : mbits b ≤ c) : SzM c b := by
  intro i k
  by_cases hi : i < b.length
  · by_cases hk : k < (b.getD i []).length
    · have h1 := mb_mem (n := 0) (getD_mem [] hi) (getD_mem 0 hk)
      have h2 := lt_bitlen ((b.getD i []).getD k 0).natAbs
      exact Nat.lt_of_lt_of_le h2 (Nat.pow_le_pow_right (by decide) (by have h3 : mbits b = b.foldl vbN 0 := rfl; omega))
    · have e : (b.getD i []).getD k 0 = 0 := by rw [List.getD_eq_getElem?_getD, List.getElem?_eq_none (by omega)]; rfl
      rw [e]; exact Sz.zero _
  · have e : b.getD i [] = [] := by simp [List.getD, Nat.le_of_not_lt hi]
    rw [e]; exact Sz.zero _
/-- rows as far as they were looked at -/
def rowsTo (b : List (List Int)) (bits : Bool) (i : Nat) : Prop := ∀ j, j < i → (b.getD j []).length ≤ 12 ∧ (bits = true → ∀ k, k < (b.getD j []).length → (bitlen ((b.getD j []).getD k 0).natAbs : Int) ≤ 256)
theorem rowsTo_end {b bits} (h0 : ¬ (12 : Int) < (b.length : Int)) (h : rowsTo b bits b.length) : ¬ bigN b bits b.length = true := by
  unfold bigN
  simp only [List.take_length, Bool.or_eq_true, Bool.and_eq_true, decide_eq_true_eq, List.any_eq_true, not_or, not_and, not_exists]
  refine ⟨⟨h0, fun hb => ?_⟩, fun r hr => ?_⟩
  · have : mbits b ≤ 256 := mb_le (by decide) fun r hr x hx => by
      obtain ⟨j, hj, rfl⟩ := mem_getD [] hr
      obtain ⟨k, hk, rfl⟩ := mem_getD 0 hx
      exact (h j hj).2 hb k hk
    omega
  · obtain ⟨j, hj, rfl⟩ := mem_getD [] hr
    have := (h j hj).1; omega
theorem big_row {b bits i} (hi : i < b.length) (h : (12 : Int) < ((b.getD i []).length : Int)) : bigN b bits b.length = true := by
  unfold bigN
  simp only [List.take_length, Bool.or_eq_true, decide_eq_true_eq, List.any_eq_true]
  exact .inr ⟨_, getD_mem [] hi, h⟩
theorem big_len {b bits} (h : (12 : Int) < (b.length : Int)) : bigN b bits b.length = true := by
  unfold bigN
  simp only [Bool.or_eq_true, decide_eq_true_eq]
  exact .inl (.inl h)

/-! ### The errors of a basis -/
/-! ### Gram-Schmidt data as fractions -/
theorem frS_ne {G k} (hs : SymG G) (hp : PosU G (k + 1)) : gsE (qG G) k k k ≠ 0 := by
  have h := (gsE_pos hs (hp.le (by omega) : PosU G k)).2 (hp k (by omega))
  intro e; rw [e] at h; exact absurd h (by decide)
end Fw


/- Which rows may be; the data of rows: what the functions answer. -/
set_option linter.unusedVariables false
set_option linter.unusedSimpArgs false
set_option exponentiation.threshold 400
namespace Fw
open Go Go.Proofs

end Fw


/- Gram-Schmidt data of the document. -/
set_option linter.unusedVariables false
set_option linter.unusedSimpArgs false
set_option exponentiation.threshold 400
namespace Fw
open Go Go.Proofs

end Fw


/- Plain facts: whether an answer on a shortest vector belongs together. -/
set_option linter.unusedVariables false
set_option linter.unusedSimpArgs false
set_option exponentiation.threshold 400
namespace Fw
open Go

theorem SzM.up {n m b} (h : SzM n b) (hm : n ≤ m) : SzM m b := fun i k => (h i k).up hm
theorem SzL.up {n m u} (h : SzL n u) (hm : n ≤ m) : SzL m u := fun k => (h k).up hm
theorem SzL.nil (n) : SzL n [] := fun k => by rw [List.getD_nil]; exact Sz.zero _
theorem SzL.sm {m u} (h : SzL m u) (hm : m ≤ 549755813888) : ∀ x ∈ u, Sm x := fun x hx => by
  obtain ⟨i, hi, rfl⟩ := mem_getD 0 hx
  exact (h i).sm hm
theorem sgn0 {x y : Int} : (x - y).sign = 0 ↔ x = y := by rw [Int.sign_eq_zero_iff_zero]; omega
end Fw


/- Own memory: what the helpers of the statements on layer 16 answer. -/
set_option linter.unusedVariables false
set_option linter.unusedSimpArgs false
set_option exponentiation.threshold 70
namespace Fw
open Go Go.Proofs

end Fw


/- ShortChecks: what the functions answer. -/
set_option linter.unusedVariables false
set_option linter.unusedSimpArgs false
set_option exponentiation.threshold 400
namespace Fw
open Go Go.Proofs

end Fw


/- Plain facts: forms by their matrices: which may be, their data, their values. -/
set_option linter.unusedVariables false
set_option linter.unusedSimpArgs false
set_option exponentiation.threshold 400
namespace Fw
open Go

def matF (a : List (List Int)) : Nat → Nat → Int := fun i j => (a.getD i []).getD j 0
def sqN (a : List (List Int)) (i : Nat) : Bool := (a.take i).all (fun r => decide ((r.length : Int) = (a.length : Int)))
def symB (a : List (List Int)) : Bool := (List.range a.length).all (fun i => (List.range i).all (fun k => decide (matF a i k = matF a k i)))
theorem sqN_succ {a : List (List Int)} {i} (h : i < a.length) : sqN a (i + 1) = (sqN a i && decide (((a.getD i []).length : Int) = (a.length : Int))) := by
  unfold sqN
  rw [← take_app (d := []) h, List.all_append]
  simp
def qshape (a : List (List Int)) : Int := if bigN a true a.length = true then 40 else if a.length = 0 then 41 else if sqN a a.length = true then (if symB a = true then 0 else 220) else 8
theorem sqN_iff {a} : sqN a a.length = true ↔ ∀ i, i < a.length → (a.getD i []).length = a.length := by
  unfold sqN
  rw [List.take_length, List.all_eq_true]
  constructor
  · intro h i hi; have := of_decide_eq_true (h _ (getD_mem [] hi)); omega
  · intro h r hr; obtain ⟨i, hi, rfl⟩ := mem_getD [] hr; have := h i hi; simp only [decide_eq_true_eq]; omega
theorem symB_iff {a} : symB a = true ↔ ∀ i, i < a.length → ∀ k, k < i → matF a i k = matF a k i := by
  simp [symB]
theorem mbits_row {a : List (List Int)} {i} (hi : i < a.length) : mbits [a.getD i []] ≤ mbits a := by
  have h0 : (0 : Int) ≤ mbits a := mb_ge a 0
  show vbN 0 (a.getD i []) ≤ mbits a
  exact vbN_le h0 fun x hx => mb_mem (n := 0) (getD_mem [] hi) hx
theorem big_bits {a : List (List Int)} {i} (hi : i < a.length) (h : (256 : Int) < mbits [a.getD i []]) : bigN a true a.length = true := by
  have := mbits_row hi
  unfold bigN
  simp only [List.take_length, Bool.or_eq_true, Bool.and_eq_true, decide_eq_true_eq, List.any_eq_true]
  exact .inl (.inr ⟨trivial, by omega⟩)
theorem rowsTo_next {a : List (List Int)} {i} (h : rowsTo a true i) (h1 : ¬ (12 : Int) < ((a.getD i []).length : Int)) (h2 : ¬ (256 : Int) < mbits [a.getD i []]) : rowsTo a true (i + 1) := by
  intro j hj
  by_cases e : j = i
  · subst e
    refine ⟨by omega, fun _ k hk => ?_⟩
    have h3 : (bitlen ((a.getD j []).getD k 0).natAbs : Int) ≤ vbN 0 (a.getD j []) := vbN_mem (getD_mem 0 hk)
    have h4 : mbits [a.getD j []] = vbN 0 (a.getD j []) := rfl
    omega
  · exact h j (by omega)
theorem qshape_1 {a} (h : bigN a true a.length = true) : qshape a = 40 := if_pos h
theorem qshape_2 {a} (h : ¬ bigN a true a.length = true) (h2 : a.length = 0) : qshape a = 41 := by unfold qshape; rw [if_neg h, if_pos h2]
theorem qshape_3 {a} (h : ¬ bigN a true a.length = true) (h2 : ¬ a.length = 0) (h3 : ¬ sqN a a.length = true) : qshape a = 8 := by unfold qshape; rw [if_neg h, if_neg h2, if_neg h3]
theorem qshape_4 {a} (h : ¬ bigN a true a.length = true) (h2 : ¬ a.length = 0) (h3 : sqN a a.length = true) (h4 : ¬ symB a = true) : qshape a = 220 := by unfold qshape; rw [if_neg h, if_neg h2, if_pos h3, if_neg h4]
theorem qshape_5 {a} (h : ¬ bigN a true a.length = true) (h2 : ¬ a.length = 0) (h3 : sqN a a.length = true) (h4 : symB a = true) : qshape a = 0 := by unfold qshape; rw [if_neg h, if_neg h2, if_pos h3, if_pos h4]
theorem not_sq {a : List (List Int)} {i} (hi : i < a.length) (h : ((a.getD i []).length : Int) ≠ (a.length : Int)) : ¬ sqN a a.length = true := fun e => h (by rw [sqN_iff.1 e i hi])
theorem not_sym {a : List (List Int)} {i k} (hi : i < a.length) (hk : k < i) (h : (matF a i k - matF a k i).sign ≠ 0) : ¬ symB a = true := fun e => h (sgn0.2 (symB_iff.1 e i hi k hk))
/-- a matrix that is looked at as a form -/
structure Sqm (a : List (List Int)) : Prop where
  z : SzM 256 a
  n : a.length ≤ 12
  n0 : 0 < a.length
  q : ∀ i, i < a.length → (a.getD i []).length = a.length
  s : SymG (matF a)
theorem matF_out {a : List (List Int)} (h : ∀ i, i < a.length → (a.getD i []).length = a.length) {i j} (hij : ¬ (i < a.length ∧ j < a.length)) : matF a i j = 0 := by
  unfold matF
  by_cases hi : i < a.length
  · rw [List.getD_eq_getElem?_getD, List.getElem?_eq_none (by rw [h i hi]; omega)]; rfl
  · have e : a.getD i [] = [] := by rw [List.getD_eq_getElem?_getD, List.getElem?_eq_none (by omega)]; rfl
    rw [e]; rfl
theorem matF_sym {a : List (List Int)} (h : ∀ i, i < a.length → (a.getD i []).length = a.length) (hs : ∀ i, i < a.length → ∀ k, k < i → matF a i k = matF a k i) : SymG (matF a) := by
  intro i j
  by_cases hij : i < a.length ∧ j < a.length
  · rcases Nat.lt_trichotomy i j with h1 | h1 | h1
    · exact (hs j hij.2 i h1).symm
    · rw [h1]
    · exact hs i hij.1 j h1
  · rw [matF_out h hij, matF_out h (fun e => hij ⟨e.2, e.1⟩)]
theorem sqm_of {a} (h : qshape a = 0) : Sqm a := by
  by_cases h1 : bigN a true a.length = true
  · rw [qshape_1 h1] at h; exact absurd h (by decide)
  · by_cases h2 : a.length = 0
    · rw [qshape_2 h1 h2] at h; exact absurd h (by decide)
    · by_cases h3 : sqN a a.length = true
      · by_cases h4 : symB a = true
        · obtain ⟨b1, b2, b3⟩ := bigN_no h1
          exact ⟨mbits_Sz (b2 rfl), b1, by omega, sqN_iff.1 h3, matF_sym (sqN_iff.1 h3) (symB_iff.1 h4)⟩
        · rw [qshape_4 h1 h2 h3 h4] at h; exact absurd h (by decide)
      · rw [qshape_3 h1 h2 h3] at h; exact absurd h (by decide)
theorem matF_Sz {n a} (h : SzM n a) (i j) : Sz n (matF a i j) := h i j
def quadE (a : List (List Int)) : Int := if qshape a ≠ 0 then qshape a else if gOk (matF a) a.length = true then 0 else 221
def quadR (a : List (List Int)) : List Int × List (List Int) := if quadE a ≠ 0 then ([], []) else (gDs (matF a) a.length, gLs (matF a) a.length)
theorem quadE_1 {a} (h : qshape a ≠ 0) : quadE a = qshape a := if_pos h
theorem quadE_2 {a} (h : ¬ qshape a ≠ 0) (h2 : gOk (matF a) a.length = false) : quadE a = 221 := by
  unfold quadE; rw [if_neg h, if_neg (by simp [h2])]
theorem quadE_3 {a} (h : ¬ qshape a ≠ 0) (h2 : gOk (matF a) a.length = true) : quadE a = 0 := by
  unfold quadE; rw [if_neg h, if_pos h2]
theorem quad_ok {a} (h : quadE a = 0) : Sqm a ∧ PosU (matF a) a.length := by
  unfold quadE at h
  by_cases h1 : qshape a ≠ 0
  · rw [if_pos h1] at h; exact absurd h h1
  · rw [if_neg h1] at h
    by_cases h2 : gOk (matF a) a.length = true
    · exact ⟨sqm_of (by omega), gOk_iff.1 h2⟩
    · rw [if_neg h2] at h; exact absurd h (by decide)
theorem quadR_ok {a} (h : quadE a = 0) : gsoV (matF a) a.length = quadR a := by
  unfold quadR gsoV
  rw [if_neg (show ¬ quadE a ≠ 0 by omega), if_pos (gOk_iff.2 (quad_ok h).2)]
theorem sqm_rect {a} (h : Sqm a) : RectL a := fun i hi => by rw [h.q i hi, h.q 0 h.n0]
theorem sqm_rb {a} (h : Sqm a) : rect a = true := rect_iff.2 (sqm_rect h)
/-- the value at x -/
def qval (a : List (List Int)) (x : List Int) : Int := dotV (combV x a) x
def qvalE (a : List (List Int)) (x : List Int) : Int := if quadE a ≠ 0 then quadE a else if x.length = a.length then 0 else 8
def qvalV (a : List (List Int)) (x : List Int) : Int := if quadE a ≠ 0 then 0 else if x.length = a.length then qval a x else 0
theorem combV_Sz {n m x b} (hx : SzL n x) (hb : SzM m b) : SzL (n + m + b.length) (combV x b) := by
  intro k
  by_cases hk : k < (b.getD 0 []).length
  · rw [combV_get hk]; exact combN_Sz hx hb k _
  · rw [List.getD_eq_getElem?_getD, List.getElem?_eq_none (by rw [combV_len]; omega)]; exact Sz.zero _
/-- how far D has come when row i is at j -/
def dI (i j : Nat) : Nat := if j ≤ i then i else i + 1

end Fw


/- Plain facts: Gauss's steps on binary forms. -/
set_option linter.unusedVariables false
set_option linter.unusedSimpArgs false
set_option exponentiation.threshold 400
namespace Fw
open Go

def posF (A B C : Int) : Prop := 0 < A ∧ B * B < 4 * (A * C)
instance (A B C : Int) : Decidable (posF A B C) := by unfold posF; infer_instance
def kF (A B : Int) : Int := (A - B).fdiv (A + A)
def sB (A B : Int) : Int := B + (A * kF A B + A * kF A B)
def sC (A B C : Int) : Int := (A * kF A B + B) * kF A B + C
def redF (A B C : Int) : Prop := A < C ∨ (A = C ∧ 0 ≤ B)
instance (A B C : Int) : Decidable (redF A B C) := by unfold redF; infer_instance
def gFlag (A B : Int) : Nat := if 0 ≤ B ∧ B ≤ A then 0 else 1
theorem sq_nn (x : Int) : 0 ≤ x * x := by
  rcases Int.le_total 0 x with h | h
  · exact Int.mul_nonneg h h
  · exact Int.mul_nonneg_of_nonpos_of_nonpos h h
theorem kF_rng {A B : Int} (hA : 0 < A) : A * kF A B + A * kF A B ≤ A - B ∧ A - B < A * kF A B + A * kF A B + (A + A) := by
  have h1 := Int.fmod_nonneg_of_pos (A - B) (show 0 < A + A by omega)
  have h2 := Int.fmod_lt_of_pos (A - B) (show 0 < A + A by omega)
  have h3 := Int.mul_fdiv_add_fmod (A - B) (A + A)
  have h4 : (A + A) * (A - B).fdiv (A + A) = A * kF A B + A * kF A B := by unfold kF; rw [Int.add_mul]
  omega
theorem sB_rng {A B : Int} (hA : 0 < A) : -A < sB A B ∧ sB A B ≤ A := by
  have := kF_rng (B := B) hA
  unfold sB; omega
theorem disc_s (A B C : Int) : sB A B * sB A B - 4 * (A * sC A B C) = B * B - 4 * (A * C) := by
  unfold sB sC
  generalize kF A B = k
  grind
theorem pos_s {A B C : Int} (h : posF A B C) : sB A B * sB A B < 4 * (A * sC A B C) ∧ 0 < sC A B C := by
  have h1 := disc_s A B C
  have h2 : sB A B * sB A B < 4 * (A * sC A B C) := by have := h.2; omega
  refine ⟨h2, ?_⟩
  have h3 := sq_nn (sB A B)
  rcases Int.lt_or_le 0 (sC A B C) with h4 | h4
  · exact h4
  · have := Int.mul_nonpos_of_nonneg_of_nonpos (Int.le_of_lt h.1) h4
    omega
theorem kF_0 {A B : Int} (hA : 0 < A) (h : 0 ≤ B ∧ B ≤ A) : kF A B = 0 := by
  unfold kF
  rw [Int.fdiv_eq_ediv_of_nonneg _ (by omega)]
  exact Int.ediv_eq_zero_of_lt (by omega) (by omega)
theorem g_dec {A B C : Int} (h : posF A B C ∧ ¬ redF A (sB A B) (sC A B C)) : 2 * (sC A B C).toNat + gFlag (sC A B C) (-(sB A B)) < 2 * A.toNat + gFlag A B := by
  obtain ⟨hp, hr⟩ := h
  obtain ⟨h1, h2⟩ := pos_s hp
  have hA := hp.1
  have h3 := sB_rng (B := B) hA
  unfold redF at hr
  by_cases hc : sC A B C < A
  · have h4 : gFlag (sC A B C) (-(sB A B)) ≤ 1 := by unfold gFlag; split <;> omega
    omega
  · have h5 : A = sC A B C := by omega
    have h6 : sB A B < 0 := by omega
    have h7 : gFlag (sC A B C) (-(sB A B)) = 0 := by unfold gFlag; rw [if_pos (by omega)]
    have h8 : gFlag A B = 1 := by
      unfold gFlag
      rw [if_neg]
      intro h9
      have := kF_0 hA h9
      have h10 : sB A B = B := by unfold sB; rw [this]; omega
      omega
    omega
/-- Gauss's steps, with what they change. -/
def gs (A B C x y z t : Int) : (Int × Int × Int) × List Int :=
  if h : posF A B C ∧ ¬ redF A (sB A B) (sC A B C) then gs (sC A B C) (-(sB A B)) A (y + x * kF A B) (-x) (t + z * kF A B) (-z)
  else ((A, sB A B, sC A B C), [x, y + x * kF A B, z, t + z * kF A B])
termination_by 2 * A.toNat + gFlag A B
decreasing_by exact g_dec h
/-- The reduced form alone. -/
def g1 (A B C : Int) : Int × Int × Int := (gs A B C 1 0 0 1).1
/-! ### What the change makes -/
/-! ### The steps' numbers -/
end Fw


/- Plain facts: what the functions on binary forms answer. -/
set_option linter.unusedVariables false
set_option linter.unusedSimpArgs false
set_option exponentiation.threshold 400
namespace Fw
open Go

end Fw


/- Gauss on binary forms: what the functions answer. -/
set_option linter.unusedVariables false
set_option linter.unusedSimpArgs false
set_option exponentiation.threshold 400
namespace Fw
open Go Go.Proofs

set_option maxRecDepth 20000 in
set_option maxHeartbeats 1000000 in
theorem c_law22_own (z : Int) : Fn Try.prog 23 [kZ.is z] (kZ.is z) := by
  refine Con.enter Try.func23 rfl rfl fun m w => ?_
  refine ST.z 0 rfl fun y y_v y_n y_l => ?_
  refine CW.seq ?_
  refine CW.region ?_
  refine WP.bx .n rfl fun b1 => ?_
  refine WP.al .n z31_C fun b2 => ?_
  refine WP.nil ?_
  refine QE.next ?_
  refine CW.seq ?_
  refine CW.region ?_
  refine WP.s .n (O.asg rfl) ?_
  refine WP.nil ?_
  refine QE.next ?_
  refine CW.seq ?_
  refine ST.nilrow 121 kLimb ?_
  refine CW.region ?_
  refine WP.s .n (O.mv rfl) ?_
  refine WP.s .n (O.fa rfl fld31_1 rfl) ?_
  refine WP.s .n (O.ld (p := kN.is y.2) rfl (mem_at 2 rfl) (Lens.snd (Lens.id _)) ty29 rfl) ?_
  refine WP.ap 0 .n rfl rfl rfl (VP.le_refl _) Try.underlying29 el121_limb (by simp; omega) fun v3 => ?_
  refine WP.s .n (O.asg rfl) ?_
  refine WP.nil ?_
  refine QE.next ?_
  refine CW.seq ?_
  refine CW.region ?_
  refine WP.s .n (O.mv rfl) ?_
  refine WP.s .n (O.bs Try.underlying29 el121_limb (evl.l rfl (u32_limb (x := 77) (by omega)) (evl.l rfl (u32_limb (x := 78) (by omega)) (evl.l rfl (u32_limb (x := 79) (by omega)) (evl.l rfl (u32_limb (x := 80) (by omega)) (evl.l rfl (u32_limb (x := 81) (by omega)) (evl.l rfl (u32_limb (x := 82) (by omega)) (evl.l rfl (u32_limb (x := 83) (by omega)) (evl.l rfl (u32_limb (x := 84) (by omega)) (evl.l rfl (u32_limb (x := 85) (by omega)) evl.n))))))))) rfl (by decide)) ?_
  refine WP.ap 0 .n rfl rfl rfl (VP.le_refl _) Try.underlying29 el121_limb (by simp; omega) fun v4 => ?_
  refine WP.s .n (O.asg rfl) ?_
  refine WP.nil ?_
  refine QE.next ?_
  refine CW.seq ?_
  refine ST.freeze 0 rfl (.keep (i := 0) rfl (.keep (i := 1) rfl (.keep (i := 2) rfl (.hit (i := 3) rfl (.keep (i := 4) rfl (.keep (i := 5) rfl (.keep (i := 6) rfl (.keep (i := 7) rfl (.keep (i := 8) rfl (.keep (i := 9) rfl (.hit (i := 10) rfl .nil))))))))))) ?_
  refine CW.draw (Γ := [.fr (VP.ex (.pointer (some ⟨b1, 0, none⟩))), .fr (kBool.is y.1), .fr (kN.is (y.2 ++ [77, 78, 79, 80, 81, 82, 83, 84, 85])), .fr (VP.ex (.pointer (some ⟨b1, 1, none⟩))), .fr (kN.is y.2), .fr ((kInt .i64).is (y.2.length : Int)), .fr (kN.is ((y.2 ++ [77, 78, 79, 80, 81, 82, 83, 84, 85]).take y.2.length)), .fr (kI.is (y.1, ((y.2 ++ [77, 78, 79, 80, 81, 82, 83, 84, 85]).take y.2.length)))]) (lates := [false, false, false, false, false, false, false, false]) (by kernel_rfl) (Chk.of rfl (by kernel_rfl) rfl) (fun _ _ _ _ _ h => h) (fun q_ x_ h_ => ?_) (fun σ1 => ?_)
  · match q_, h_ with
    | 0, h_ => cases h_; exact Ob.f rfl .n fun N => (O.fa rfl fld31_0 rfl)
    | 1, h_ => cases h_; exact Ob.f rfl .n fun N => (O.ld (p := kBool.is y.1) rfl (mem_app N (mem_at 1 rfl)) (Lens.fst (Lens.id _)) ty4 rfl)
    | 2, h_ => cases h_; exact Ob.f rfl .n fun N => (O.mv rfl)
    | 3, h_ => cases h_; exact Ob.f rfl .n fun N => (O.fa rfl fld31_1 rfl)
    | 4, h_ => cases h_; exact Ob.f rfl .n fun N => (O.ld (p := kN.is y.2) rfl (mem_app N (mem_at 1 rfl)) (Lens.snd (Lens.id _)) ty29 rfl)
    | 5, h_ => cases h_; exact Ob.f rfl .n fun N => (O.lenS rfl Try.underlying29)
    | 6, h_ => cases h_; exact Ob.f rfl .n fun N => (O.slH y.2.length rfl rfl Try.underlying29 ty121 rfl (by simp))
    | 7, h_ => cases h_; exact Ob.f rfl .n fun N => (O.bld lit31_I rfl (evp.c rfl (evp.c rfl evp.n)) (.cons rfl (Lens.fst (Lens.id _)) (.cons rfl (Lens.snd (Lens.id _)) (.nil _))))
    | n_ + 8, h_ => simp at h_
  refine WP.t .n (O.stW (l := kI) (u := (y.1, ((y.2 ++ [77, 78, 79, 80, 81, 82, 83, 84, 85]).take y.2.length))) 0 rfl rfl rfl ty31 rfl (VP.le_refl _)) ?_
  refine WP.nil ?_
  refine QE.next ?_
  refine CW.ret ?_
  refine ST.obtold (b' := OB.box b2 31 kZ z) 0 rfl (OB.I_Z (own_val y_v) (by simp; omega)) ?_
  exact QE.done (.inl rfl) rfl (ResOk.c rfl (mem_at 0 rfl) ty31 ResOk.nil) (OImp.sub (List.nil_sublist _)) ⟨rfl, rfl⟩

set_option maxRecDepth 20000 in
set_option maxHeartbeats 1000000 in
theorem c_law22_eq (x y : Bool × List Nat) : Fn Try.prog 29 [kI.is x, kI.is y] (kBool.is (decide (x = y))) := by
  refine Con.enter Try.func29 rfl rfl fun m w => ?_
  refine CW.seq ?_
  refine CW.region ?_
  refine WP.bx .n rfl fun b1 => ?_
  refine WP.bx .n rfl fun b2 => ?_
  refine WP.s .n (O.asg rfl) ?_
  refine WP.nil ?_
  refine QE.next ?_
  refine CW.seq ?_
  refine CW.seq ?_
  refine CW.region ?_
  refine WP.s .n (O.fa rfl fld31_0 rfl) ?_
  refine WP.s .n (O.ld rfl (mem_at 1 rfl) (Lens.fst (Lens.id _)) ty4 rfl) ?_
  refine WP.s .n (O.fa rfl fld31_0 rfl) ?_
  refine WP.s .n (O.ld rfl (mem_at 0 rfl) (Lens.fst (Lens.id _)) ty4 rfl) ?_
  refine WP.s .n (O.neB rfl rfl Try.underlying4) ?_
  refine WP.s .n (O.mv rfl) ?_
  refine WP.splitD 11 rfl (fun h_t11 => ?_) (fun h_t11 => ?_)
  · refine WP.ku (b := true) rfl rfl ?_
    refine WP.ku (b := true) rfl rfl ?_
    refine WP.ku (b := true) rfl rfl ?_
    refine WP.ku (b := true) rfl rfl ?_
    refine WP.ku (b := true) rfl rfl ?_
    refine WP.ku (b := true) rfl rfl ?_
    refine WP.ku (b := true) rfl rfl ?_
    refine WP.s .n (O.pickT rfl rfl) ?_
    refine WP.nil ?_
    refine QE.next ?_
    refine CW.condT rfl ?_
    refine CW.seq ?_
    refine CW.region ?_
    refine WP.s .n (O.asg rfl) ?_
    refine WP.nil ?_
    refine QE.next ?_
    refine CW.ret ?_
    refine QE.thenR ?_
    refine ST.told 4 rfl (is_eq (y := (decide (x = y))) (by rw [eq_comm, decide_eq_false_iff_not]; intro e; exact h_t11 (by rw [e]))) ?_
    exact QE.done (.inl rfl) rfl (ResOk.t rfl ResOk.nil) (OImp.sub (List.nil_sublist _)) ⟨rfl, rfl⟩
  · refine WP.s (.g rfl rfl) (O.fa rfl fld31_1 rfl) ?_
    refine WP.s (.g rfl rfl) (O.ld rfl (mem_at 1 rfl) (Lens.snd (Lens.id _)) ty29 rfl) ?_
    refine WP.s (.g rfl rfl) (O.lenS rfl Try.underlying29) ?_
    refine WP.s (.g rfl rfl) (O.fa rfl fld31_1 rfl) ?_
    refine WP.s (.g rfl rfl) (O.ld rfl (mem_at 0 rfl) (Lens.snd (Lens.id _)) ty29 rfl) ?_
    refine WP.s (.g rfl rfl) (O.lenS rfl Try.underlying29) ?_
    refine WP.s (.g rfl rfl) (O.ne rfl rfl) ?_
    refine WP.s .n (O.pickF rfl rfl) ?_
    refine WP.nil ?_
    refine QE.next ?_
    refine CW.condD rfl (fun h_t19 => ?_) (fun h_t19 => ?_)
    · refine CW.seq ?_
      refine CW.region ?_
      refine WP.s .n (O.asg rfl) ?_
      refine WP.nil ?_
      refine QE.next ?_
      refine CW.ret ?_
      refine QE.thenR ?_
      refine ST.told 4 rfl (is_eq (y := (decide (x = y))) (by rw [eq_comm, decide_eq_false_iff_not]; intro e; exact h_t19 (by rw [e]))) ?_
      exact QE.done (.inl rfl) rfl (ResOk.t rfl ResOk.nil) (OImp.sub (List.nil_sublist _)) ⟨rfl, rfl⟩
    · refine CW.skip ?_
      refine QE.next ?_
      refine CW.seq ?_
      refine CW.seq ?_
      refine ST.fact (i := 13) rfl sl_len fun hB => ?_
      refine CW.region ?_
      refine WP.s .n (O.asg rfl) ?_
      refine WP.nil ?_
      refine QE.next ?_
      refine CW.block ?_
      refine CW.loop (fun (i : Nat) => i ≤ x.2.length ∧ x.2.take i = y.2.take i) (fun (i : Nat) => [(2, VP.ex (.pointer (some ⟨b1, 0, none⟩))), (3, VP.ex (.pointer (some ⟨b2, 0, none⟩))), (5, (kInt .i64).is (i : Int))]) (fun (i : Nat) => [OB.box b2 31 kI y, OB.box b1 31 kI x]) (fun (i : Nat) => x.2.length - i) 0 ⟨Nat.zero_le _, rfl⟩ (Imp.cons rfl (Imp.cons rfl (Imp.consLe rfl (is_eq (y := (0 : Int)) (by omega)) Imp.nil))) (OImp.refl _) ?_
      intro i ⟨hi, ht⟩
      refine CW.seq ?_
      refine CW.seq ?_
      refine CW.region ?_
      refine WP.s .n (O.mv rfl) ?_
      refine WP.s .n (O.fa rfl fld31_1 rfl) ?_
      refine WP.s .n (O.ld rfl (mem_at 1 rfl) (Lens.snd (Lens.id _)) ty29 rfl) ?_
      refine WP.s .n (O.lenS rfl Try.underlying29) ?_
      refine WP.s .n (O.lt rfl rfl) ?_
      refine WP.nil ?_
      refine QE.next ?_
      refine CW.condD rfl (fun h_t24 => ?_) (fun h_t24 => ?_)
      · refine CW.skip ?_
        refine QE.next ?_
        refine CW.seq ?_
        refine CW.block ?_
        refine CW.seq ?_
        refine CW.draw (Γ := [.fr (VP.ex (.pointer (some ⟨b1, 1, none⟩))), .fr (kN.is x.2), .fr ((kInt .i64).is (i : Int)), .fr (VP.pim kLimb (x.2.getD i 0)), .fr ((kInt .u32).is ((x.2.getD i 0) : Int)), .fr (VP.ex (.pointer (some ⟨b2, 1, none⟩))), .fr (kN.is y.2), .fr ((kInt .i64).is (i : Int)), .fr (VP.pim kLimb (y.2.getD i 0)), .fr ((kInt .u32).is ((y.2.getD i 0) : Int)), .fr (kBool.is (decide (((x.2.getD i 0) : Int) ≠ ((y.2.getD i 0) : Int))))]) (lates := [false, false, false, false, false, false, false, false, false, false, false]) (by kernel_rfl) (Chk.of rfl (by kernel_rfl) rfl) (fun _ _ _ _ _ h => h) (fun q_ x_ h_ => ?_) (fun σ1 => ?_)
        · match q_, h_ with
          | 0, h_ => cases h_; exact Ob.f rfl .n fun N => (O.fa rfl fld31_1 rfl)
          | 1, h_ => cases h_; exact Ob.f rfl .n fun N => (O.ld rfl (mem_app N (mem_at 1 rfl)) (Lens.snd (Lens.id _)) ty29 rfl)
          | 2, h_ => cases h_; exact Ob.f rfl .n fun N => (O.mv rfl)
          | 3, h_ => cases h_; exact Ob.f rfl .n fun N => (O.ix i rfl rfl Try.underlying29 ty121 rfl (v := (x.2.getD i 0)) (gd 0 (by omega)))
          | 4, h_ => cases h_; exact Ob.f rfl .n fun N => (OpOk.le (O.ldP rfl ty121) (limb_le _))
          | 5, h_ => cases h_; exact Ob.f rfl .n fun N => (O.fa rfl fld31_1 rfl)
          | 6, h_ => cases h_; exact Ob.f rfl .n fun N => (O.ld rfl (mem_app N (mem_at 0 rfl)) (Lens.snd (Lens.id _)) ty29 rfl)
          | 7, h_ => cases h_; exact Ob.f rfl .n fun N => (O.mv rfl)
          | 8, h_ => cases h_; exact Ob.f rfl .n fun N => (O.ix i rfl rfl Try.underlying29 ty121 rfl (v := (y.2.getD i 0)) (gd 0 (by omega)))
          | 9, h_ => cases h_; exact Ob.f rfl .n fun N => (OpOk.le (O.ldP rfl ty121) (limb_le _))
          | 10, h_ => cases h_; exact Ob.f rfl .n fun N => (O.ne rfl rfl)
          | n_ + 11, h_ => simp at h_
        refine WP.nil ?_
        refine QE.next ?_
        refine CW.condD rfl (fun h_t37 => ?_) (fun h_t37 => ?_)
        · refine CW.seq ?_
          refine CW.region ?_
          refine WP.s .n (O.asg rfl) ?_
          refine WP.nil ?_
          refine QE.next ?_
          refine CW.ret ?_
          refine QE.blkR ?_
          refine QE.thenR ?_
          refine QE.thenR ?_
          refine QE.blkR ?_
          refine QE.thenR ?_
          refine ST.told 4 rfl (is_eq (y := (decide (x = y))) (by rw [eq_comm, decide_eq_false_iff_not]; intro e; exact h_t37 (by rw [e]))) ?_
          exact QE.done (.inl rfl) rfl (ResOk.t rfl ResOk.nil) (OImp.sub (List.nil_sublist _)) ⟨rfl, rfl⟩
        · refine CW.skip ?_
          refine QE.blkN ?_
          refine QE.next ?_
          refine CW.region ?_
          refine WP.s .n (O.mv rfl) ?_
          refine WP.s .n (O.add rfl rfl (c := ((i : Int) + 1)) (w64 (by omega))) ?_
          refine WP.s .n (O.asg rfl) ?_
          refine WP.nil ?_
          exact QE.round (i + 1) (by omega) ⟨by omega, eq_take (d := 0) (by omega) (by omega) ht (by omega)⟩ (Imp.cons rfl (Imp.cons rfl (Imp.consLe rfl (is_eq (y := (((i + 1) : Nat) : Int)) (by omega)) Imp.nil))) (OImp.refl _)
      · refine CW.exit ?_
        refine QE.thenE ?_
        refine QE.thenE ?_
        refine QE.blkH ?_
        refine QE.next ?_
        refine CW.seq ?_
        refine CW.region ?_
        refine WP.s .n (O.asg rfl) ?_
        refine WP.nil ?_
        refine QE.next ?_
        refine CW.ret ?_
        refine ST.told 4 rfl (is_eq (y := (decide (x = y))) (by rw [eq_comm, decide_eq_true_iff]; exact Prod.ext (by simpa using h_t11) (eq_full (i := i) (by omega) (by omega) ht))) ?_
        exact QE.done (.inl rfl) rfl (ResOk.t rfl ResOk.nil) (OImp.sub (List.nil_sublist _)) ⟨rfl, rfl⟩

end Fw


/- Forms by their matrices: what the program answers. -/
set_option linter.unusedVariables false
set_option linter.unusedSimpArgs false
set_option exponentiation.threshold 400
namespace Fw
open Go Go.Proofs

set_option maxRecDepth 20000 in
set_option maxHeartbeats 1000000 in
theorem c_law22_owns (xs : List Int) : Fn Try.prog 54 [(kSl kZ).is xs] ((kSl kZ).is xs) := by
  refine Con.enter Try.func54 rfl rfl fun m w => ?_
  refine ST.fact (i := 0) rfl sl_len fun hB => ?_
  refine CW.seq ?_
  refine CW.region ?_
  refine WP.s .n (O.asg rfl) ?_
  refine WP.nil ?_
  refine QE.next ?_
  refine CW.seq ?_
  refine CW.region ?_
  refine WP.s .n (O.asg rfl) ?_
  refine WP.nil ?_
  refine QE.next ?_
  refine CW.seq ?_
  refine CW.seq ?_
  refine CW.region ?_
  refine WP.s .n (O.asg rfl) ?_
  refine WP.nil ?_
  refine QE.next ?_
  refine CW.block ?_
  refine ST.nilrow 31 kZ ?_
  refine CW.loop2 (fun (i : Nat) (v : Value) => i ≤ xs.length) (fun (i : Nat) (v : Value) => [(0, (kSl kZ).is xs), (3, VP.ex v), (4, (kInt .i64).is (i : Int))]) (fun (i : Nat) (v : Value) => [OB.row v 31 kZ (xs.take i)]) (fun (i : Nat) (v : Value) => xs.length - i) 0 (.slice none 0 0) (by omega) (Imp.cons rfl (Imp.cons rfl (Imp.consLe rfl (is_eq (y := (0 : Int)) (by first | omega | simp)) Imp.nil))) (OImp.os (OS.keepLe (OB.row_eq (by first | omega | simp)) OS.nil)) ?_
  intro i v hR
  have htl : (xs.take i).length = i := by simp; omega
  refine CW.seq ?_
  refine CW.seq ?_
  refine CW.region ?_
  refine WP.s .n (O.mv rfl) ?_
  refine WP.s .n (O.mv rfl) ?_
  refine WP.s .n (O.lenS rfl Try.underlying27) ?_
  refine WP.s .n (O.lt rfl rfl) ?_
  refine WP.nil ?_
  refine QE.next ?_
  refine CW.condD rfl (fun h_t8 => ?_) (fun h_t8 => ?_)
  · refine CW.skip ?_
    refine QE.next ?_
    refine CW.seq ?_
    refine CW.block ?_
    refine CW.region ?_
    refine WP.s .n (O.mv rfl) ?_
    refine WP.s .n (O.mv rfl) ?_
    refine WP.s .n (O.mv rfl) ?_
    refine WP.s .n (O.ix i rfl rfl Try.underlying27 ty31 rfl (v := (xs.getD i 0)) (gd 0 (by omega))) ?_
    refine WP.s .n (O.ldP rfl ty31) ?_
    refine WP.s .n (O.fn fn23 (evs.c rfl evs.nil) (c_law22_own (xs.getD i 0))) ?_
    refine WP.s .n (O.bs Try.underlying27 el31_Z (evl.c rfl evl.n) rfl (by decide)) ?_
    refine WP.ap 0 .n rfl rfl rfl (VP.le_refl _) Try.underlying27 el31_Z (by simp; omega) fun v1 => ?_
    refine WP.s .n (O.asg rfl) ?_
    refine WP.nil ?_
    refine QE.blkN ?_
    refine QE.next ?_
    refine CW.region ?_
    refine WP.s .n (O.mv rfl) ?_
    refine WP.s .n (O.add rfl rfl (c := ((i : Int) + 1)) (w64 (by omega))) ?_
    refine WP.s .n (O.asg rfl) ?_
    refine WP.nil ?_
    refine ST.obtold 0 rfl (OB.row_eq (ys := (xs.take (i + 1))) (take_app (by omega))) ?_
    exact QE.round2 (i + 1) v1 (by omega) (by omega) (Imp.cons rfl (Imp.cons rfl (Imp.consLe rfl (is_eq (y := (((i + 1) : Nat) : Int)) (by first | omega | simp)) Imp.nil))) (OImp.refl _)
  · refine CW.exit ?_
    refine QE.thenE ?_
    refine QE.thenE ?_
    refine QE.blkH ?_
    refine QE.next ?_
    refine CW.seq ?_
    refine CW.region ?_
    refine WP.s .n (O.mv rfl) ?_
    refine WP.s .n (O.asg rfl) ?_
    refine WP.nil ?_
    refine QE.next ?_
    refine CW.ret ?_
    refine ST.freeze 0 rfl (.keep (i := 0) rfl (.hit (i := 2) rfl (.hit (i := 3) rfl (.keep (i := 4) rfl (.keep (i := 5) rfl (.keep (i := 6) rfl (.keep (i := 7) rfl (.keep (i := 8) rfl (.hit (i := 19) rfl .nil))))))))) ?_
    refine ST.told 2 rfl (is_eq (y := xs) (List.take_of_length_le (by omega))) ?_
    exact QE.done (.inl rfl) rfl (ResOk.t rfl ResOk.nil) (OImp.sub (List.nil_sublist _)) ⟨rfl, rfl⟩

set_option maxRecDepth 20000 in
set_option maxHeartbeats 1000000 in
theorem c_quad_shaped (a : List (List Int)) : Fn Try.prog 112 [(kSl (kSl kZ)).is a] ((kInt .i64).is (qshape a)) := by
  refine Con.enter Try.func112 rfl rfl fun m w => ?_
  refine ST.fact (i := 0) rfl sl_len fun hB => ?_
  refine ST.fact (i := 0) rfl slsl_len fun hlc => ?_
  refine CW.seq ?_
  refine CW.region ?_
  refine WP.s .n (O.asg rfl) ?_
  refine WP.nil ?_
  refine QE.next ?_
  refine CW.seq ?_
  refine CW.seq ?_
  refine CW.region ?_
  refine WP.s .n (O.mv rfl) ?_
  refine WP.s .n (O.lenS rfl Try.underlying67) ?_
  refine WP.s .n (O.gt rfl rfl) ?_
  refine WP.nil ?_
  refine QE.next ?_
  refine CW.condD rfl (fun h_t11 => ?_) (fun h_t11 => ?_)
  · refine CW.seq ?_
    refine CW.region ?_
    refine WP.s .n (O.asg rfl) ?_
    refine WP.nil ?_
    refine QE.next ?_
    refine CW.ret ?_
    refine QE.thenR ?_
    refine ST.told 2 rfl (is_eq (y := (qshape a)) (qshape_1 (big_len h_t11)).symm) ?_
    exact QE.done (.inl rfl) rfl (ResOk.t rfl ResOk.nil) (OImp.sub (List.nil_sublist _)) ⟨rfl, rfl⟩
  · refine CW.skip ?_
    refine QE.next ?_
    refine CW.seq ?_
    refine CW.seq ?_
    refine CW.region ?_
    refine WP.s .n (O.mv rfl) ?_
    refine WP.s .n (O.lenS rfl Try.underlying67) ?_
    refine WP.s .n (O.mv rfl) ?_
    refine WP.nil ?_
    refine QE.next ?_
    refine CW.block ?_
    refine CW.loop (fun (i : Nat) => i ≤ a.length ∧ rowsTo a true i) (fun (i : Nat) => [(0, (kSl (kSl kZ)).is a), (12, (kSl (kSl kZ)).is a), (13, (kInt .i64).is (a.length : Int)), (14, (kInt .i64).is (i : Int))]) (fun (i : Nat) => []) (fun (i : Nat) => a.length - i) 0 ⟨Nat.zero_le _, fun j hj => absurd hj (by omega)⟩ (Imp.cons rfl (Imp.cons rfl (Imp.cons rfl (Imp.consLe rfl (is_eq (y := (0 : Int)) (by first | rfl | omega | assumption)) Imp.nil)))) (OImp.refl _) ?_
    intro i ⟨hi, hA⟩
    refine CW.seq ?_
    refine CW.region ?_
    refine WP.s .n (O.lt rfl rfl) ?_
    refine WP.nil ?_
    refine QE.next ?_
    refine CW.seq ?_
    refine CW.condD rfl (fun h_t15 => ?_) (fun h_t15 => ?_)
    · refine CW.skip ?_
      refine QE.next ?_
      refine CW.seq ?_
      refine CW.block ?_
      refine CW.seq ?_
      have hlci := hlc i
      refine CW.region ?_
      refine WP.s .n (O.ix i rfl rfl Try.underlying67 ty27 rfl (v := (a.getD i [])) (gd [] (by first | omega | (have h1 := hQ i (by omega); have h2 := hQ k (by omega); omega)))) ?_
      refine WP.s .n (O.ldP rfl ty27) ?_
      refine WP.s .n (O.asg rfl) ?_
      refine WP.nil ?_
      refine QE.next ?_
      refine CW.seq ?_
      refine CW.region ?_
      refine WP.s .n (O.mv rfl) ?_
      refine WP.s .n (O.lenS rfl Try.underlying27) ?_
      refine WP.s .n (O.gt rfl rfl) ?_
      refine WP.s .n (O.mv rfl) ?_
      refine WP.splitD 21 rfl (fun h_t21 => ?_) (fun h_t21 => ?_)
      · refine WP.ku (b := true) rfl rfl ?_
        refine WP.ku (b := true) rfl rfl ?_
        refine WP.ku (b := true) rfl rfl ?_
        refine WP.ku (b := true) rfl rfl ?_
        refine WP.s .n (O.pickT rfl rfl) ?_
        refine WP.nil ?_
        refine QE.next ?_
        refine CW.condT rfl ?_
        refine CW.seq ?_
        refine CW.region ?_
        refine WP.s .n (O.asg rfl) ?_
        refine WP.nil ?_
        refine QE.next ?_
        refine CW.ret ?_
        refine QE.blkR ?_
        refine QE.thenR ?_
        refine QE.thenR ?_
        refine QE.blkR ?_
        refine QE.thenR ?_
        refine ST.told 2 rfl (is_eq (y := (qshape a)) (qshape_1 (big_row (i := i) (by omega) (by omega))).symm) ?_
        exact QE.done (.inl rfl) rfl (ResOk.t rfl ResOk.nil) (OImp.sub (List.nil_sublist _)) ⟨rfl, rfl⟩
      · refine WP.s (.g rfl rfl) (O.mv rfl) ?_
        refine WP.s (.g rfl rfl) (O.bs Try.underlying67 el27_sl_Z (evl.c rfl evl.n) rfl (by decide)) ?_
        refine WP.s (.g rfl rfl) (O.fn fn174 (evs.c rfl evs.nil) (c_mat_Bits [(a.getD i [])])) ?_
        refine WP.s (.g rfl rfl) (O.gt rfl rfl) ?_
        refine WP.s .n (O.pickF rfl rfl) ?_
        refine WP.nil ?_
        refine QE.next ?_
        refine CW.condD rfl (fun h_t26 => ?_) (fun h_t26 => ?_)
        · refine CW.seq ?_
          refine CW.region ?_
          refine WP.s .n (O.asg rfl) ?_
          refine WP.nil ?_
          refine QE.next ?_
          refine CW.ret ?_
          refine QE.blkR ?_
          refine QE.thenR ?_
          refine QE.thenR ?_
          refine QE.blkR ?_
          refine QE.thenR ?_
          refine ST.told 2 rfl (is_eq (y := (qshape a)) (qshape_1 (big_bits (i := i) (by omega) (by omega))).symm) ?_
          exact QE.done (.inl rfl) rfl (ResOk.t rfl ResOk.nil) (OImp.sub (List.nil_sublist _)) ⟨rfl, rfl⟩
        · refine CW.skip ?_
          refine QE.blkN ?_
          refine QE.next ?_
          refine CW.region ?_
          refine WP.s .n (O.add rfl rfl (c := ((i : Int) + 1)) (w64 (by omega))) ?_
          refine WP.s .n (O.mv rfl) ?_
          refine WP.nil ?_
          exact QE.round (i + 1) (by omega) ⟨by omega, rowsTo_next hA (by omega) (by omega)⟩ (Imp.cons rfl (Imp.cons rfl (Imp.cons rfl (Imp.consLe rfl (is_eq (y := (((i + 1) : Nat) : Int)) (by first | rfl | omega | assumption)) Imp.nil)))) (OImp.refl _)
    · refine CW.exit ?_
      refine QE.thenE ?_
      refine QE.thenE ?_
      refine QE.blkH ?_
      refine QE.next ?_
      refine CW.seq ?_
      refine CW.seq ?_
      have hno := rowsTo_end h_t11 (by rw [show i = a.length by omega] at hA; exact hA)
      refine CW.region ?_
      refine WP.s .n (O.mv rfl) ?_
      refine WP.s .n (O.lenS rfl Try.underlying67) ?_
      refine WP.s .n (O.eq rfl rfl) ?_
      refine WP.nil ?_
      refine QE.next ?_
      refine CW.condD rfl (fun h_t30 => ?_) (fun h_t30 => ?_)
      · refine CW.seq ?_
        refine CW.region ?_
        refine WP.s .n (O.asg rfl) ?_
        refine WP.nil ?_
        refine QE.next ?_
        refine CW.ret ?_
        refine QE.thenR ?_
        refine ST.told 2 rfl (is_eq (y := (qshape a)) (qshape_2 hno (by omega)).symm) ?_
        exact QE.done (.inl rfl) rfl (ResOk.t rfl ResOk.nil) (OImp.sub (List.nil_sublist _)) ⟨rfl, rfl⟩
      · refine CW.skip ?_
        refine QE.next ?_
        refine CW.seq ?_
        refine CW.seq ?_
        refine CW.region ?_
        refine WP.s .n (O.mv rfl) ?_
        refine WP.s .n (O.lenS rfl Try.underlying67) ?_
        refine WP.s .n (O.mv rfl) ?_
        refine WP.nil ?_
        refine QE.next ?_
        refine CW.block ?_
        refine CW.loop (fun (j : Nat) => j ≤ a.length ∧ ∀ l, l < j → (a.getD l []).length = a.length) (fun (j : Nat) => [(0, (kSl (kSl kZ)).is a), (31, (kSl (kSl kZ)).is a), (32, (kInt .i64).is (a.length : Int)), (33, (kInt .i64).is (j : Int))]) (fun (j : Nat) => []) (fun (j : Nat) => a.length - j) 0 ⟨Nat.zero_le _, fun l hl => absurd hl (by omega)⟩ (Imp.cons rfl (Imp.cons rfl (Imp.cons rfl (Imp.consLe rfl (is_eq (y := (0 : Int)) (by first | rfl | omega | assumption)) Imp.nil)))) (OImp.refl _) ?_
        intro j ⟨hj, hQ⟩
        refine CW.seq ?_
        refine CW.region ?_
        refine WP.s .n (O.lt rfl rfl) ?_
        refine WP.nil ?_
        refine QE.next ?_
        refine CW.seq ?_
        refine CW.condD rfl (fun h_t34 => ?_) (fun h_t34 => ?_)
        · refine CW.skip ?_
          refine QE.next ?_
          refine CW.seq ?_
          refine CW.block ?_
          refine CW.seq ?_
          refine CW.region ?_
          refine WP.s .n (O.ix j rfl rfl Try.underlying67 ty27 rfl (v := (a.getD j [])) (gd [] (by first | omega | (have h1 := hQ i (by omega); have h2 := hQ k (by omega); omega)))) ?_
          refine WP.s .n (O.ldP rfl ty27) ?_
          refine WP.s .n (O.asg rfl) ?_
          refine WP.nil ?_
          refine QE.next ?_
          refine CW.seq ?_
          refine CW.region ?_
          refine WP.s .n (O.mv rfl) ?_
          refine WP.s .n (O.lenS rfl Try.underlying27) ?_
          refine WP.s .n (O.mv rfl) ?_
          refine WP.s .n (O.lenS rfl Try.underlying67) ?_
          refine WP.s .n (O.ne rfl rfl) ?_
          refine WP.nil ?_
          refine QE.next ?_
          refine CW.condD rfl (fun h_t41 => ?_) (fun h_t41 => ?_)
          · refine CW.seq ?_
            refine CW.region ?_
            refine WP.s .n (O.asg rfl) ?_
            refine WP.nil ?_
            refine QE.next ?_
            refine CW.ret ?_
            refine QE.blkR ?_
            refine QE.thenR ?_
            refine QE.thenR ?_
            refine QE.blkR ?_
            refine QE.thenR ?_
            refine ST.told 2 rfl (is_eq (y := (qshape a)) (qshape_3 hno (by omega) (not_sq (i := j) (by omega) (by omega))).symm) ?_
            exact QE.done (.inl rfl) rfl (ResOk.t rfl ResOk.nil) (OImp.sub (List.nil_sublist _)) ⟨rfl, rfl⟩
          · refine CW.skip ?_
            refine QE.blkN ?_
            refine QE.next ?_
            refine CW.region ?_
            refine WP.s .n (O.add rfl rfl (c := ((j : Int) + 1)) (w64 (by omega))) ?_
            refine WP.s .n (O.mv rfl) ?_
            refine WP.nil ?_
            exact QE.round (j + 1) (by omega) ⟨by omega, fun l hl => if e : l = j then by subst e; omega else hQ l (by omega)⟩ (Imp.cons rfl (Imp.cons rfl (Imp.cons rfl (Imp.consLe rfl (is_eq (y := (((j + 1) : Nat) : Int)) (by first | rfl | omega | assumption)) Imp.nil)))) (OImp.refl _)
        · refine CW.exit ?_
          refine QE.thenE ?_
          refine QE.thenE ?_
          refine QE.blkH ?_
          refine QE.next ?_
          refine CW.seq ?_
          refine CW.seq ?_
          have hsq := sqN_iff.2 (fun l hl => hQ l (by omega))
          refine CW.region ?_
          refine WP.s .n (O.mv rfl) ?_
          refine WP.s .n (O.lenS rfl Try.underlying67) ?_
          refine WP.s .n (O.mv rfl) ?_
          refine WP.nil ?_
          refine QE.next ?_
          refine CW.block ?_
          refine CW.loop (fun (i : Nat) => i ≤ a.length ∧ ∀ x, x < i → ∀ y, y < x → matF a x y = matF a y x) (fun (i : Nat) => [(0, (kSl (kSl kZ)).is a), (44, (kInt .i64).is (a.length : Int)), (45, (kInt .i64).is (i : Int))]) (fun (i : Nat) => []) (fun (i : Nat) => a.length - i) 0 ⟨Nat.zero_le _, fun l hl => absurd hl (by omega)⟩ (Imp.cons rfl (Imp.cons rfl (Imp.consLe rfl (is_eq (y := (0 : Int)) (by first | rfl | omega | assumption)) Imp.nil))) (OImp.refl _) ?_
          intro i ⟨hi, hS⟩
          refine CW.seq ?_
          refine CW.region ?_
          refine WP.s .n (O.lt rfl rfl) ?_
          refine WP.nil ?_
          refine QE.next ?_
          refine CW.seq ?_
          refine CW.condD rfl (fun h_t46 => ?_) (fun h_t46 => ?_)
          · refine CW.skip ?_
            refine QE.next ?_
            refine CW.seq ?_
            refine CW.block ?_
            refine CW.seq ?_
            refine CW.region ?_
            refine WP.s .n (O.mv rfl) ?_
            refine WP.s .n (O.asg rfl) ?_
            refine WP.nil ?_
            refine QE.next ?_
            refine CW.seq ?_
            refine CW.region ?_
            refine WP.s .n (O.mv rfl) ?_
            refine WP.s .n (O.mv rfl) ?_
            refine WP.nil ?_
            refine QE.next ?_
            refine CW.block ?_
            refine CW.loop (fun (k : Nat) => k ≤ i ∧ ∀ y, y < k → matF a i y = matF a y i) (fun (k : Nat) => [(0, (kSl (kSl kZ)).is a), (7, (kInt .i64).is (i : Int)), (44, (kInt .i64).is (a.length : Int)), (45, (kInt .i64).is (i : Int)), (48, (kInt .i64).is (i : Int)), (49, (kInt .i64).is (k : Int))]) (fun (k : Nat) => []) (fun (k : Nat) => i - k) 0 ⟨Nat.zero_le _, fun l hl => absurd hl (by omega)⟩ (Imp.cons rfl (Imp.cons rfl (Imp.cons rfl (Imp.cons rfl (Imp.cons rfl (Imp.consLe rfl (is_eq (y := (0 : Int)) (by first | rfl | omega | assumption)) Imp.nil)))))) (OImp.refl _) ?_
            intro k ⟨hk, hK⟩
            refine CW.seq ?_
            refine CW.region ?_
            refine WP.s .n (O.lt rfl rfl) ?_
            refine WP.nil ?_
            refine QE.next ?_
            refine CW.seq ?_
            refine CW.condD rfl (fun h_t50 => ?_) (fun h_t50 => ?_)
            · refine CW.skip ?_
              refine QE.next ?_
              refine CW.seq ?_
              refine CW.block ?_
              refine CW.seq ?_
              refine CW.region ?_
              refine WP.s .n (O.mv rfl) ?_
              refine WP.s .n (O.asg rfl) ?_
              refine WP.nil ?_
              refine QE.next ?_
              refine CW.seq ?_
              refine CW.draw (Γ := [.fr ((kSl (kSl kZ)).is a), .fr ((kInt .i64).is (i : Int)), .fr (VP.pim (kSl kZ) (a.getD i [])), .fr ((kSl kZ).is (a.getD i [])), .fr ((kInt .i64).is (k : Int)), .fr (VP.pim kZ ((a.getD i []).getD k 0)), .fr (kZ.is ((a.getD i []).getD k 0)), .fr ((kSl (kSl kZ)).is a), .fr ((kInt .i64).is (k : Int)), .fr (VP.pim (kSl kZ) (a.getD k [])), .fr ((kSl kZ).is (a.getD k [])), .fr ((kInt .i64).is (i : Int)), .fr (VP.pim kZ ((a.getD k []).getD i 0)), .fr (kZ.is ((a.getD k []).getD i 0)), .fr ((kInt .i64).is ((((a.getD i []).getD k 0) - ((a.getD k []).getD i 0)).sign)), .fr (kBool.is (decide (((((a.getD i []).getD k 0) - ((a.getD k []).getD i 0)).sign) ≠ 0)))]) (lates := [false, false, false, false, false, false, false, false, false, false, false, false, false, false, false, false]) (by kernel_rfl) (Chk.of rfl (by kernel_rfl) rfl) (fun _ _ _ _ _ h => h) (fun q_ x_ h_ => ?_) (fun σ1 => ?_)
              · match q_, h_ with
                | 0, h_ => cases h_; exact Ob.f rfl .n fun N => (O.mv rfl)
                | 1, h_ => cases h_; exact Ob.f rfl .n fun N => (O.mv rfl)
                | 2, h_ => cases h_; exact Ob.f rfl .n fun N => (O.ix i rfl rfl Try.underlying67 ty27 rfl (v := (a.getD i [])) (gd [] (by first | omega | (have h1 := hQ i (by omega); have h2 := hQ k (by omega); omega))))
                | 3, h_ => cases h_; exact Ob.f rfl .n fun N => (O.ldP rfl ty27)
                | 4, h_ => cases h_; exact Ob.f rfl .n fun N => (O.mv rfl)
                | 5, h_ => cases h_; exact Ob.f rfl .n fun N => (O.ix k rfl rfl Try.underlying27 ty31 rfl (v := ((a.getD i []).getD k 0)) (gd 0 (by first | omega | (have h1 := hQ i (by omega); have h2 := hQ k (by omega); omega))))
                | 6, h_ => cases h_; exact Ob.f rfl .n fun N => (O.ldP rfl ty31)
                | 7, h_ => cases h_; exact Ob.f rfl .n fun N => (O.mv rfl)
                | 8, h_ => cases h_; exact Ob.f rfl .n fun N => (O.mv rfl)
                | 9, h_ => cases h_; exact Ob.f rfl .n fun N => (O.ix k rfl rfl Try.underlying67 ty27 rfl (v := (a.getD k [])) (gd [] (by first | omega | (have h1 := hQ i (by omega); have h2 := hQ k (by omega); omega))))
                | 10, h_ => cases h_; exact Ob.f rfl .n fun N => (O.ldP rfl ty27)
                | 11, h_ => cases h_; exact Ob.f rfl .n fun N => (O.mv rfl)
                | 12, h_ => cases h_; exact Ob.f rfl .n fun N => (O.ix i rfl rfl Try.underlying27 ty31 rfl (v := ((a.getD k []).getD i 0)) (gd 0 (by first | omega | (have h1 := hQ i (by omega); have h2 := hQ k (by omega); omega))))
                | 13, h_ => cases h_; exact Ob.f rfl .n fun N => (O.ldP rfl ty31)
                | 14, h_ => cases h_; exact Ob.f rfl .n fun N => (O.fn fn75 (evs.c rfl (evs.c rfl evs.nil)) (c_zint_Compare ((a.getD i []).getD k 0) ((a.getD k []).getD i 0)))
                | 15, h_ => cases h_; exact Ob.f rfl .n fun N => (O.ne rfl rfl)
                | n_ + 16, h_ => simp at h_
              refine WP.nil ?_
              refine QE.next ?_
              refine CW.condD rfl (fun h_t67 => ?_) (fun h_t67 => ?_)
              · refine CW.seq ?_
                refine CW.region ?_
                refine WP.s .n (O.asg rfl) ?_
                refine WP.nil ?_
                refine QE.next ?_
                refine CW.ret ?_
                refine QE.blkR ?_
                refine QE.thenR ?_
                refine QE.thenR ?_
                refine QE.blkR ?_
                refine QE.blkR ?_
                refine QE.thenR ?_
                refine QE.thenR ?_
                refine QE.blkR ?_
                refine QE.thenR ?_
                refine ST.told 2 rfl (is_eq (y := (qshape a)) (qshape_4 hno (by omega) hsq (not_sym (i := i) (k := k) (by omega) (by omega) h_t67)).symm) ?_
                exact QE.done (.inl rfl) rfl (ResOk.t rfl ResOk.nil) (OImp.sub (List.nil_sublist _)) ⟨rfl, rfl⟩
              · refine CW.skip ?_
                refine QE.blkN ?_
                refine QE.next ?_
                refine CW.region ?_
                refine WP.s .n (O.add rfl rfl (c := ((k : Int) + 1)) (w64 (by omega))) ?_
                refine WP.s .n (O.mv rfl) ?_
                refine WP.nil ?_
                exact QE.round (k + 1) (by omega) ⟨by omega, fun y hy => if e : y = k then by subst e; exact sgn0.1 (Classical.byContradiction fun h => h_t67 h) else hK y (by omega)⟩ (Imp.cons rfl (Imp.cons rfl (Imp.cons rfl (Imp.cons rfl (Imp.cons rfl (Imp.consLe rfl (is_eq (y := (((k + 1) : Nat) : Int)) (by first | rfl | omega | assumption)) Imp.nil)))))) (OImp.refl _)
            · refine CW.exit ?_
              refine QE.thenE ?_
              refine QE.thenE ?_
              refine QE.blkH ?_
              refine QE.blkN ?_
              refine QE.next ?_
              refine CW.region ?_
              refine WP.s .n (O.add rfl rfl (c := ((i : Int) + 1)) (w64 (by omega))) ?_
              refine WP.s .n (O.mv rfl) ?_
              refine WP.nil ?_
              exact QE.round (i + 1) (by omega) ⟨by omega, fun x hx => if e : x = i then by subst e; exact fun y hy => hK y (by omega) else hS x (by omega)⟩ (Imp.cons rfl (Imp.cons rfl (Imp.consLe rfl (is_eq (y := (((i + 1) : Nat) : Int)) (by first | rfl | omega | assumption)) Imp.nil))) (OImp.refl _)
          · refine CW.exit ?_
            refine QE.thenE ?_
            refine QE.thenE ?_
            refine QE.blkH ?_
            refine QE.next ?_
            refine CW.seq ?_
            refine CW.region ?_
            refine WP.s .n (O.asg rfl) ?_
            refine WP.nil ?_
            refine QE.next ?_
            refine CW.ret ?_
            refine ST.told 2 rfl (is_eq (y := (qshape a)) (qshape_5 hno (by omega) hsq (symB_iff.2 (fun x hx => hS x (by omega)))).symm) ?_
            exact QE.done (.inl rfl) rfl (ResOk.t rfl ResOk.nil) (OImp.sub (List.nil_sublist _)) ⟨rfl, rfl⟩

set_option maxRecDepth 20000 in
set_option maxHeartbeats 1000000 in
theorem c_quad_data (n : Nat) (a : List (List Int)) (ha : SzM n a) (hq : ∀ i, i < a.length → (a.getD i []).length = a.length) (hs : SymG (matF a)) (hl : a.length ≤ 12) (hn : n ≤ 4194304) : Fn Try.prog 113 [(kSl (kSl kZ)).is a] (VP.tup [(kPair (kSl kC) (kSl (kSl kC))).is (gsoV (matF a) a.length), kBool.is (gOk (matF a) a.length)]) := by
  refine Con.enter Try.func113 rfl rfl fun m w => ?_
  refine ST.fact (i := 0) rfl sl_len fun hB => ?_
  refine ST.fact (i := 0) rfl slsl_len fun hlc => ?_
  have hz : ∀ i j, Sz (n + n + 12) (matF a i j) := fun i j => (matF_Sz ha i j).up (by omega)
  have hU : ∀ k, k ≤ 12 → szU (n + n + 12) k ≤ 34359902208 := fun k hk => by have := szU_le (n + n + 12) hk; omega
  refine CW.seq ?_
  refine CW.region ?_
  refine WP.al .n z93_pr_sl_C_sl_sl_C_ fun b1 => ?_
  refine WP.s .n (O.asg rfl) ?_
  refine WP.nil ?_
  refine QE.next ?_
  refine CW.seq ?_
  refine CW.region ?_
  refine WP.s .n (O.fn fn74 (evs.l rfl (i64_int (by omega)) evs.nil) (c_zint_Of 1)) ?_
  refine WP.bso .n Try.underlying27 el31_C (evl.c rfl evl.n) rfl (by decide) fun v2 => ?_
  refine ST.rowcell 0 rfl fun hcell_ => ?_
  refine WP.s .n (O.bld lit93_pr_val_val_ rfl (evp.l rfl (ex_val (by first | rfl | assumption)) evp.n) (.cons rfl (Lens.fst (Lens.id _)) (.nil _))) ?_
  refine WP.al .n z93_pr_val_val_ fun b3 => ?_
  refine WP.t .n (O.stW (l := (kPair kVal kVal)) (u := (v2, (.slice none 0 0))) 0 rfl rfl rfl ty93 rfl (VP.le_refl _)) ?_
  refine WP.nil ?_
  refine QE.next ?_
  refine CW.seq ?_
  refine CW.seq ?_
  refine CW.region ?_
  refine WP.s .n (O.mv rfl) ?_
  refine WP.s .n (O.lenS rfl Try.underlying67) ?_
  refine WP.s .n (O.mv rfl) ?_
  refine WP.nil ?_
  refine QE.next ?_
  refine CW.block ?_
  refine ST.nilrow 27 (kSl kC) ?_
  refine CW.loop3 (fun (i : Nat) (vD : Value) (vL : Value) => i ≤ a.length ∧ PosU (matF a) i) (fun (i : Nat) (vD : Value) (vL : Value) => [(0, (kSl (kSl kZ)).is a), (2, VP.ex (.pointer (some ⟨b1, 0, none⟩))), (3, kBool.is false), (4, VP.ex (.pointer (some ⟨b3, 0, none⟩))), (16, (kInt .i64).is (a.length : Int)), (17, (kInt .i64).is (i : Int))]) (fun (i : Nat) (vD : Value) (vL : Value) => [OB.row vL 27 (kSl kC) (gLs (matF a) i), OB.box b3 93 (kPair kVal kVal) (vD, vL), OB.row vD 31 kC (gDs (matF a) i), OB.box b1 93 (kPair (kSl kC) (kSl (kSl kC))) ([], [])]) (fun (i : Nat) (vD : Value) (vL : Value) => a.length - i) 0 v2 (.slice none 0 0) ⟨Nat.zero_le _, fun l hl => absurd hl (by omega)⟩ (Imp.cons rfl (Imp.cons rfl (Imp.cons rfl (Imp.cons rfl (Imp.cons rfl (Imp.consLe rfl (is_eq (y := (0 : Int)) (by first | rfl | omega | assumption)) Imp.nil)))))) (OImp.os (OS.keepLe (OB.row_eq (by first | rfl | omega | assumption)) (OS.keep (OS.keepLe (OB.row_eq (by first | rfl | omega | assumption)) (OS.keep OS.nil))))) ?_
  intro i vD vL ⟨hi, hP⟩
  refine CW.seq ?_
  refine CW.region ?_
  refine WP.s .n (O.lt rfl rfl) ?_
  refine WP.nil ?_
  refine QE.next ?_
  refine CW.seq ?_
  refine CW.condD rfl (fun h_t18 => ?_) (fun h_t18 => ?_)
  · refine CW.skip ?_
    refine QE.next ?_
    refine CW.seq ?_
    refine CW.block ?_
    refine CW.seq ?_
    refine CW.region ?_
    refine WP.s .n (O.mv rfl) ?_
    refine WP.s .n (O.asg rfl) ?_
    refine WP.nil ?_
    refine QE.next ?_
    refine CW.seq ?_
    refine CW.region ?_
    refine WP.s .n (O.asg rfl) ?_
    refine WP.nil ?_
    refine QE.next ?_
    refine CW.seq ?_
    refine CW.seq ?_
    refine CW.region ?_
    refine WP.s .n (O.asg rfl) ?_
    refine WP.nil ?_
    refine QE.next ?_
    refine CW.block ?_
    refine ST.nilrow 31 kC ?_
    refine CW.loop2 (fun (j : Nat) (v : Value) => j ≤ i + 1) (fun (j : Nat) (v : Value) => [(0, (kSl (kSl kZ)).is a), (2, VP.ex (.pointer (some ⟨b1, 0, none⟩))), (3, kBool.is false), (4, VP.ex (.pointer (some ⟨b3, 0, none⟩))), (5, (kInt .i64).is (i : Int)), (6, VP.ex v), (7, (kInt .i64).is (j : Int)), (16, (kInt .i64).is (a.length : Int)), (17, (kInt .i64).is (i : Int))]) (fun (j : Nat) (v : Value) => [OB.row v 31 kC (gRow (matF a) i j), OB.row vL 27 (kSl kC) (gLs (matF a) i), OB.box b3 93 (kPair kVal kVal) (vD, vL), OB.row vD 31 kC (gDs (matF a) i), OB.box b1 93 (kPair (kSl kC) (kSl (kSl kC))) ([], [])]) (fun (j : Nat) (v : Value) => i + 1 - j) 0 (.slice none 0 0) (by omega) (Imp.cons rfl (Imp.cons rfl (Imp.cons rfl (Imp.cons rfl (Imp.cons rfl (Imp.cons rfl (Imp.consLe rfl (is_eq (y := (0 : Int)) (by first | rfl | omega | assumption)) (Imp.cons rfl (Imp.cons rfl Imp.nil))))))))) (OImp.os (OS.keepLe (OB.row_eq (by first | rfl | omega | assumption)) (OS.keep (OS.keep (OS.keep (OS.keep OS.nil)))))) ?_
    intro j v hj
    refine CW.seq ?_
    refine CW.seq ?_
    refine CW.region ?_
    refine WP.s .n (O.mv rfl) ?_
    refine WP.s .n (O.mv rfl) ?_
    refine WP.s .n (O.le rfl rfl) ?_
    refine WP.nil ?_
    refine QE.next ?_
    refine CW.condD rfl (fun h_t22 => ?_) (fun h_t22 => ?_)
    · refine CW.skip ?_
      refine QE.next ?_
      refine CW.seq ?_
      refine CW.block ?_
      refine CW.seq ?_
      refine CW.region ?_
      refine WP.s .n (O.mv rfl) ?_
      refine WP.s .n (O.mv rfl) ?_
      refine WP.s .n (O.ix i rfl rfl Try.underlying67 ty27 rfl (v := (a.getD i [])) (gd [] (by first | omega | (simp only [gRow_len, gDs_len, gLs_len]; omega) | (have := hq i (by omega); omega)))) ?_
      refine WP.s .n (O.ldP rfl ty27) ?_
      refine WP.s .n (O.mv rfl) ?_
      refine WP.s .n (O.ix j rfl rfl Try.underlying27 ty31 rfl (v := ((a.getD i []).getD j 0)) (gd 0 (by first | omega | (simp only [gRow_len, gDs_len, gLs_len]; omega) | (have := hq i (by omega); omega)))) ?_
      refine WP.s .n (O.ldP rfl ty31) ?_
      refine WP.s .n (O.fn fn146 (evs.c rfl evs.nil) (c_zint_Form ((a.getD i []).getD j 0))) ?_
      refine WP.al .n z31_C fun b4 => ?_
      refine WP.t .n (O.stW (l := kC) (u := ((a.getD i []).getD j 0)) 0 rfl rfl rfl ty31 rfl (VP.le_refl _)) ?_
      refine WP.nil ?_
      refine QE.next ?_
      refine CW.seq ?_
      refine CW.seq ?_
      refine CW.region ?_
      refine WP.s .n (O.mv rfl) ?_
      refine WP.s .n (O.mv rfl) ?_
      refine WP.nil ?_
      refine QE.next ?_
      refine CW.block ?_
      refine CW.loop2 (fun (k : Nat) (p : Nat) => k ≤ j) (fun (k : Nat) (p : Nat) => [(0, (kSl (kSl kZ)).is a), (2, VP.ex (.pointer (some ⟨b1, 0, none⟩))), (3, kBool.is false), (4, VP.ex (.pointer (some ⟨b3, 0, none⟩))), (5, (kInt .i64).is (i : Int)), (6, VP.ex v), (7, (kInt .i64).is (j : Int)), (8, VP.ex (.pointer (some ⟨p, 0, none⟩))), (33, (kInt .i64).is (j : Int)), (34, (kInt .i64).is (k : Int)), (16, (kInt .i64).is (a.length : Int)), (17, (kInt .i64).is (i : Int))]) (fun (k : Nat) (p : Nat) => [OB.box p 31 kC (uE (matF a) k i j), OB.row v 31 kC (gRow (matF a) i j), OB.row vL 27 (kSl kC) (gLs (matF a) i), OB.box b3 93 (kPair kVal kVal) (vD, vL), OB.row vD 31 kC (gDs (matF a) i), OB.box b1 93 (kPair (kSl kC) (kSl (kSl kC))) ([], [])]) (fun (k : Nat) (p : Nat) => j - k) 0 b4 (by omega) (Imp.cons rfl (Imp.cons rfl (Imp.cons rfl (Imp.cons rfl (Imp.cons rfl (Imp.cons rfl (Imp.cons rfl (Imp.cons rfl (Imp.cons rfl (Imp.consLe rfl (is_eq (y := (0 : Int)) (by first | rfl | omega | assumption)) (Imp.cons rfl (Imp.cons rfl Imp.nil)))))))))))) (OImp.os (OS.keepLe (OB.box_eq (by first | rfl | omega | assumption)) (OS.keep (OS.keep (OS.keep (OS.keep (OS.keep OS.nil))))))) ?_
      intro k p hk
      refine CW.seq ?_
      refine CW.region ?_
      refine WP.s .n (O.lt rfl rfl) ?_
      refine WP.nil ?_
      refine QE.next ?_
      refine CW.seq ?_
      refine CW.condD rfl (fun h_t35 => ?_) (fun h_t35 => ?_)
      · refine CW.skip ?_
        refine QE.next ?_
        refine CW.seq ?_
        refine CW.block ?_
        refine CW.seq ?_
        have hE := uE_Sz hs hz hP
        have hD := uD_Sz hs hz hP
        have hUk := hU k (by omega)
        refine CW.region ?_
        refine WP.s .n (O.mv rfl) ?_
        refine WP.s .n (O.asg rfl) ?_
        refine WP.nil ?_
        refine QE.next ?_
        refine CW.seq ?_
        refine CW.region ?_
        refine WP.s .n (O.mv rfl) ?_
        refine WP.s .n (O.asg rfl) ?_
        refine WP.nil ?_
        refine QE.next ?_
        refine CW.seq ?_
        refine CW.seq ?_
        refine CW.region ?_
        refine WP.s .n (O.mv rfl) ?_
        refine WP.s .n (O.mv rfl) ?_
        refine WP.s .n (O.lt rfl rfl) ?_
        refine WP.nil ?_
        refine QE.next ?_
        refine CW.condD rfl (fun h_t40 => ?_) (fun h_t40 => ?_)
        · refine CW.region ?_
          refine WP.s .n (O.fa rfl fld93_1 rfl) ?_
          refine WP.s .n (OpOk.le (O.ld (p := kVal.is vL) rfl (mem_at 3 rfl) (Lens.snd (Lens.id _)) ty67 rfl) (val_ex _)) ?_
          refine WP.s .n (O.mv rfl) ?_
          refine WP.s .n (O.ixR (k := (kSl kC)) (xs := (gLs (matF a) i)) (n := (j : Int)) j rfl rfl (mem_at 2 rfl) Try.underlying67 ty27 rfl (by first | omega | (simp only [gRow_len, gDs_len, gLs_len]; omega) | (have := hq i (by omega); omega))) ?_
          refine WP.s .n (O.ldR j rfl (mem_at 2 rfl) (Lens.id _) rfl (y := ((gLs (matF a) i).getD j [])) (gd [] (by first | omega | (simp only [gRow_len, gDs_len, gLs_len]; omega) | (have := hq i (by omega); omega))) ty27 rfl) ?_
          refine WP.s .n (O.asg rfl) ?_
          refine WP.nil ?_
          refine QE.next ?_
          refine CW.seq ?_
          refine CW.draw (Γ := [.fr (VP.ex (.pointer (some ⟨b3, 0, none⟩))), .fr (VP.ex vD), .fr ((kInt .i64).is (k : Int)), .fr ((kInt .i64).is ((k : Int) + 1)), .fr (VP.pel vD ((((k : Int) + 1)).toNat * 2)), .fr (kC.is (uD (matF a) (k + 1))), .fr (kC.is (uE (matF a) k i j)), .fr (kC.is ((uD (matF a) (k + 1)) * (uE (matF a) k i j))), .fr (VP.ex v), .fr ((kInt .i64).is (k : Int)), .fr (VP.pel v (k * 2)), .fr (kC.is (uE (matF a) k i k)), .fr ((kSl kC).is ((gLs (matF a) i).getD j [])), .fr ((kInt .i64).is (k : Int)), .fr (VP.pim kC (uE (matF a) k j k)), .fr (kC.is (uE (matF a) k j k)), .fr (kC.is ((uE (matF a) k i k) * (uE (matF a) k j k))), .fr (kC.is (((uD (matF a) (k + 1)) * (uE (matF a) k i j)) - ((uE (matF a) k i k) * (uE (matF a) k j k)))), .al (fun b => OB.box b 31 kC 0)]) (lates := [false, false, false, false, false, false, false, false, false, false, false, false, false, false, false, false, false, false, false]) (by kernel_rfl) (Chk.of rfl (by kernel_rfl) rfl) (fun _ _ _ _ _ h => h) (fun q_ x_ h_ => ?_) (fun σ1 => ?_)
          · match q_, h_ with
            | 0, h_ => cases h_; exact Ob.f rfl .n fun N => (O.fa rfl fld93_0 rfl)
            | 1, h_ => cases h_; exact Ob.f rfl .n fun N => (OpOk.le (O.ld (p := kVal.is vD) rfl (mem_app N (mem_at 3 rfl)) (Lens.fst (Lens.id _)) ty27 rfl) (val_ex _))
            | 2, h_ => cases h_; exact Ob.f rfl .n fun N => (O.mv rfl)
            | 3, h_ => cases h_; exact Ob.f rfl .n fun N => (O.add rfl rfl (c := ((k : Int) + 1)) (w64 (by omega)))
            | 4, h_ => cases h_; exact Ob.f rfl .n fun N => (O.ixR (k := kC) (xs := (gDs (matF a) i)) (n := ((k : Int) + 1)) ((((k : Int) + 1)).toNat) rfl rfl (mem_app N (mem_at 4 rfl)) Try.underlying27 ty31 (by omega) (by first | omega | (simp only [gRow_len, gDs_len, gLs_len]; omega) | (have := hq i (by omega); omega)))
            | 5, h_ => cases h_; exact Ob.f rfl .n fun N => (O.ldR (k := kC) (xs := (gDs (matF a) i)) ((((k : Int) + 1)).toNat) rfl (mem_app N (mem_at 4 rfl)) (Lens.id _) (ho := rfl) (y := (uD (matF a) (k + 1))) (gDs_at (by omega)) ty31 rfl)
            | 6, h_ => cases h_; exact Ob.f rfl .n fun N => (O.ld rfl (mem_app N (mem_at 0 rfl)) (Lens.id _) ty31 rfl)
            | 7, h_ => cases h_; exact Ob.f rfl .n fun N => (O.fn fn76 (evs.l rfl (kC_Z (by first | assumption | exact (hE k (by omega) i j (by omega) (by omega)).sm (by omega) | exact (hE k (by omega) k k (by omega) (by omega)).sm (by omega) | exact (hE k (by omega) i k (by omega) (by omega)).sm (by omega) | exact (hE k (by omega) j k (by omega) (by omega)).sm (by omega) | exact (hE i (by omega) i i (by omega) (by omega)).sm (by omega) | exact (hD k (by omega)).sm (by omega) | exact (((hE k (by omega) k k (by omega) (by omega)).mul (hE k (by omega) i j (by omega) (by omega))).sub ((hE k (by omega) i k (by omega) (by omega)).mul (hE k (by omega) j k (by omega) (by omega)))).sm (by omega) | exact ((hE k (by omega) k k (by omega) (by omega)).mul (hE k (by omega) i j (by omega) (by omega))).sm (by omega) | exact ((hE k (by omega) i k (by omega) (by omega)).mul (hE k (by omega) j k (by omega) (by omega))).sm (by omega))) (evs.l rfl (kC_Z (by first | assumption | exact (hE k (by omega) i j (by omega) (by omega)).sm (by omega) | exact (hE k (by omega) k k (by omega) (by omega)).sm (by omega) | exact (hE k (by omega) i k (by omega) (by omega)).sm (by omega) | exact (hE k (by omega) j k (by omega) (by omega)).sm (by omega) | exact (hE i (by omega) i i (by omega) (by omega)).sm (by omega) | exact (hD k (by omega)).sm (by omega) | exact (((hE k (by omega) k k (by omega) (by omega)).mul (hE k (by omega) i j (by omega) (by omega))).sub ((hE k (by omega) i k (by omega) (by omega)).mul (hE k (by omega) j k (by omega) (by omega)))).sm (by omega) | exact ((hE k (by omega) k k (by omega) (by omega)).mul (hE k (by omega) i j (by omega) (by omega))).sm (by omega) | exact ((hE k (by omega) i k (by omega) (by omega)).mul (hE k (by omega) j k (by omega) (by omega))).sm (by omega))) evs.nil)) (c_zint_Mul (uD (matF a) (k + 1)) (uE (matF a) k i j)))
            | 8, h_ => cases h_; exact Ob.f rfl .n fun N => (O.mv rfl)
            | 9, h_ => cases h_; exact Ob.f rfl .n fun N => (O.mv rfl)
            | 10, h_ => cases h_; exact Ob.f rfl .n fun N => (O.ixR (k := kC) (xs := (gRow (matF a) i j)) (n := (k : Int)) k rfl rfl (mem_app N (mem_at 1 rfl)) Try.underlying27 ty31 rfl (by first | omega | (simp only [gRow_len, gDs_len, gLs_len]; omega) | (have := hq i (by omega); omega)))
            | 11, h_ => cases h_; exact Ob.f rfl .n fun N => (O.ldR (k := kC) (xs := (gRow (matF a) i j)) k rfl (mem_app N (mem_at 1 rfl)) (Lens.id _) (ho := rfl) (y := (uE (matF a) k i k)) (gRow_at (by omega)) ty31 rfl)
            | 12, h_ => cases h_; exact Ob.f rfl .n fun N => (O.mv rfl)
            | 13, h_ => cases h_; exact Ob.f rfl .n fun N => (O.mv rfl)
            | 14, h_ => cases h_; exact Ob.f rfl .n fun N => (O.ix k rfl rfl Try.underlying27 ty31 rfl (v := (uE (matF a) k j k)) (gLs_at (by omega) (by omega)))
            | 15, h_ => cases h_; exact Ob.f rfl .n fun N => (O.ldP rfl ty31)
            | 16, h_ => cases h_; exact Ob.f rfl .n fun N => (O.fn fn76 (evs.l rfl (kC_Z (by first | assumption | exact (hE k (by omega) i j (by omega) (by omega)).sm (by omega) | exact (hE k (by omega) k k (by omega) (by omega)).sm (by omega) | exact (hE k (by omega) i k (by omega) (by omega)).sm (by omega) | exact (hE k (by omega) j k (by omega) (by omega)).sm (by omega) | exact (hE i (by omega) i i (by omega) (by omega)).sm (by omega) | exact (hD k (by omega)).sm (by omega) | exact (((hE k (by omega) k k (by omega) (by omega)).mul (hE k (by omega) i j (by omega) (by omega))).sub ((hE k (by omega) i k (by omega) (by omega)).mul (hE k (by omega) j k (by omega) (by omega)))).sm (by omega) | exact ((hE k (by omega) k k (by omega) (by omega)).mul (hE k (by omega) i j (by omega) (by omega))).sm (by omega) | exact ((hE k (by omega) i k (by omega) (by omega)).mul (hE k (by omega) j k (by omega) (by omega))).sm (by omega))) (evs.l rfl (kC_Z (by first | assumption | exact (hE k (by omega) i j (by omega) (by omega)).sm (by omega) | exact (hE k (by omega) k k (by omega) (by omega)).sm (by omega) | exact (hE k (by omega) i k (by omega) (by omega)).sm (by omega) | exact (hE k (by omega) j k (by omega) (by omega)).sm (by omega) | exact (hE i (by omega) i i (by omega) (by omega)).sm (by omega) | exact (hD k (by omega)).sm (by omega) | exact (((hE k (by omega) k k (by omega) (by omega)).mul (hE k (by omega) i j (by omega) (by omega))).sub ((hE k (by omega) i k (by omega) (by omega)).mul (hE k (by omega) j k (by omega) (by omega)))).sm (by omega) | exact ((hE k (by omega) k k (by omega) (by omega)).mul (hE k (by omega) i j (by omega) (by omega))).sm (by omega) | exact ((hE k (by omega) i k (by omega) (by omega)).mul (hE k (by omega) j k (by omega) (by omega))).sm (by omega))) evs.nil)) (c_zint_Mul (uE (matF a) k i k) (uE (matF a) k j k)))
            | 17, h_ => cases h_; exact Ob.f rfl .n fun N => (O.fn fn157 (evs.l rfl (kC_Z (by first | assumption | exact (hE k (by omega) i j (by omega) (by omega)).sm (by omega) | exact (hE k (by omega) k k (by omega) (by omega)).sm (by omega) | exact (hE k (by omega) i k (by omega) (by omega)).sm (by omega) | exact (hE k (by omega) j k (by omega) (by omega)).sm (by omega) | exact (hE i (by omega) i i (by omega) (by omega)).sm (by omega) | exact (hD k (by omega)).sm (by omega) | exact (((hE k (by omega) k k (by omega) (by omega)).mul (hE k (by omega) i j (by omega) (by omega))).sub ((hE k (by omega) i k (by omega) (by omega)).mul (hE k (by omega) j k (by omega) (by omega)))).sm (by omega) | exact ((hE k (by omega) k k (by omega) (by omega)).mul (hE k (by omega) i j (by omega) (by omega))).sm (by omega) | exact ((hE k (by omega) i k (by omega) (by omega)).mul (hE k (by omega) j k (by omega) (by omega))).sm (by omega))) (evs.l rfl (kC_Z (by first | assumption | exact (hE k (by omega) i j (by omega) (by omega)).sm (by omega) | exact (hE k (by omega) k k (by omega) (by omega)).sm (by omega) | exact (hE k (by omega) i k (by omega) (by omega)).sm (by omega) | exact (hE k (by omega) j k (by omega) (by omega)).sm (by omega) | exact (hE i (by omega) i i (by omega) (by omega)).sm (by omega) | exact (hD k (by omega)).sm (by omega) | exact (((hE k (by omega) k k (by omega) (by omega)).mul (hE k (by omega) i j (by omega) (by omega))).sub ((hE k (by omega) i k (by omega) (by omega)).mul (hE k (by omega) j k (by omega) (by omega)))).sm (by omega) | exact ((hE k (by omega) k k (by omega) (by omega)).mul (hE k (by omega) i j (by omega) (by omega))).sm (by omega) | exact ((hE k (by omega) i k (by omega) (by omega)).mul (hE k (by omega) j k (by omega) (by omega))).sm (by omega))) evs.nil)) (c_zint_Sub ((uD (matF a) (k + 1)) * (uE (matF a) k i j)) ((uE (matF a) k i k) * (uE (matF a) k j k))))
            | 18, h_ => cases h_; exact Ob.a rfl z31_C
            | n_ + 19, h_ => simp at h_
          refine WP.t .n (O.stW (l := kC) (u := ((uD (matF a) (k + 1)) * (uE (matF a) k i j)) - ((uE (matF a) k i k) * (uE (matF a) k j k))) 0 rfl rfl rfl ty31 rfl (VP.le_refl _)) ?_
          refine WP.nil ?_
          refine QE.next ?_
          refine CW.draw (Γ := [.fr (kC.is (((uD (matF a) (k + 1)) * (uE (matF a) k i j)) - ((uE (matF a) k i k) * (uE (matF a) k j k)))), .fr (VP.ex (.pointer (some ⟨b3, 0, none⟩))), .fr (VP.ex vD), .fr ((kInt .i64).is (k : Int)), .fr (VP.pel vD (k * 2)), .fr (kC.is (uD (matF a) k)), .fr (VP.tup [kC.is ((((uD (matF a) (k + 1)) * (uE (matF a) k i j)) - ((uE (matF a) k i k) * (uE (matF a) k j k))).fdiv (uD (matF a) k)), kC.is (if (uD (matF a) k) = 0 then 0 else (((uD (matF a) (k + 1)) * (uE (matF a) k i j)) - ((uE (matF a) k i k) * (uE (matF a) k j k))).fmod (uD (matF a) k)), (kInt .i64).is (if (uD (matF a) k) = 0 then 11 else 0)]), .fr (VP.tup [kC.is ((((uD (matF a) (k + 1)) * (uE (matF a) k i j)) - ((uE (matF a) k i k) * (uE (matF a) k j k))).fdiv (uD (matF a) k)), kC.is (if (uD (matF a) k) = 0 then 0 else (((uD (matF a) (k + 1)) * (uE (matF a) k i j)) - ((uE (matF a) k i k) * (uE (matF a) k j k))).fmod (uD (matF a) k)), (kInt .i64).is (if (uD (matF a) k) = 0 then 11 else 0)]), .fr (kC.is ((((uD (matF a) (k + 1)) * (uE (matF a) k i j)) - ((uE (matF a) k i k) * (uE (matF a) k j k))).fdiv (uD (matF a) k))), .lt (kC.is (if (uD (matF a) k) = 0 then 0 else (((uD (matF a) (k + 1)) * (uE (matF a) k i j)) - ((uE (matF a) k i k) * (uE (matF a) k j k))).fmod (uD (matF a) k))), .lt ((kInt .i64).is (if (uD (matF a) k) = 0 then 11 else 0))]) (lates := [false, false, false, false, false, false, false, false, false, true, true]) (by kernel_rfl) (Chk.of rfl (by kernel_rfl) rfl) (fun _ _ _ _ _ h => h) (fun q_ x_ h_ => ?_) (fun σ2 => ?_)
          · match q_, h_ with
            | 0, h_ => cases h_; exact Ob.f rfl .n fun N => (O.ld rfl (mem_app N (mem_at 0 rfl)) (Lens.id _) ty31 rfl)
            | 1, h_ => cases h_; exact Ob.f rfl .n fun N => (O.fa rfl fld93_0 rfl)
            | 2, h_ => cases h_; exact Ob.f rfl .n fun N => (OpOk.le (O.ld (p := kVal.is vD) rfl (mem_app N (mem_at 4 rfl)) (Lens.fst (Lens.id _)) ty27 rfl) (val_ex _))
            | 3, h_ => cases h_; exact Ob.f rfl .n fun N => (O.mv rfl)
            | 4, h_ => cases h_; exact Ob.f rfl .n fun N => (O.ixR (k := kC) (xs := (gDs (matF a) i)) (n := (k : Int)) k rfl rfl (mem_app N (mem_at 5 rfl)) Try.underlying27 ty31 rfl (by first | omega | (simp only [gRow_len, gDs_len, gLs_len]; omega) | (have := hq i (by omega); omega)))
            | 5, h_ => cases h_; exact Ob.f rfl .n fun N => (O.ldR (k := kC) (xs := (gDs (matF a) i)) k rfl (mem_app N (mem_at 5 rfl)) (Lens.id _) (ho := rfl) (y := (uD (matF a) k)) (gDs_at (by omega)) ty31 rfl)
            | 6, h_ => cases h_; exact Ob.f rfl .n fun N => (O.fn fn105 (evs.l rfl (kC_Z (by first | assumption | exact (hE k (by omega) i j (by omega) (by omega)).sm (by omega) | exact (hE k (by omega) k k (by omega) (by omega)).sm (by omega) | exact (hE k (by omega) i k (by omega) (by omega)).sm (by omega) | exact (hE k (by omega) j k (by omega) (by omega)).sm (by omega) | exact (hE i (by omega) i i (by omega) (by omega)).sm (by omega) | exact (hD k (by omega)).sm (by omega) | exact (((hE k (by omega) k k (by omega) (by omega)).mul (hE k (by omega) i j (by omega) (by omega))).sub ((hE k (by omega) i k (by omega) (by omega)).mul (hE k (by omega) j k (by omega) (by omega)))).sm (by omega) | exact ((hE k (by omega) k k (by omega) (by omega)).mul (hE k (by omega) i j (by omega) (by omega))).sm (by omega) | exact ((hE k (by omega) i k (by omega) (by omega)).mul (hE k (by omega) j k (by omega) (by omega))).sm (by omega))) (evs.l rfl (kC_Z (by first | assumption | exact (hE k (by omega) i j (by omega) (by omega)).sm (by omega) | exact (hE k (by omega) k k (by omega) (by omega)).sm (by omega) | exact (hE k (by omega) i k (by omega) (by omega)).sm (by omega) | exact (hE k (by omega) j k (by omega) (by omega)).sm (by omega) | exact (hE i (by omega) i i (by omega) (by omega)).sm (by omega) | exact (hD k (by omega)).sm (by omega) | exact (((hE k (by omega) k k (by omega) (by omega)).mul (hE k (by omega) i j (by omega) (by omega))).sub ((hE k (by omega) i k (by omega) (by omega)).mul (hE k (by omega) j k (by omega) (by omega)))).sm (by omega) | exact ((hE k (by omega) k k (by omega) (by omega)).mul (hE k (by omega) i j (by omega) (by omega))).sm (by omega) | exact ((hE k (by omega) i k (by omega) (by omega)).mul (hE k (by omega) j k (by omega) (by omega))).sm (by omega))) evs.nil)) (c_zint_Floor (((uD (matF a) (k + 1)) * (uE (matF a) k i j)) - ((uE (matF a) k i k) * (uE (matF a) k j k))) (uD (matF a) k)))
            | 7, h_ => cases h_; exact Ob.f rfl .n fun N => (O.mv rfl)
            | 8, h_ => cases h_; exact Ob.f rfl .n fun N => (O.ext rfl rfl)
            | 9, h_ => cases h_; exact Ob.l rfl .n (OV.ext rfl rfl)
            | 10, h_ => cases h_; exact Ob.l rfl .n (OV.ext rfl rfl)
            | n_ + 11, h_ => simp at h_
          refine WP.t .n (O.stW (l := kC) (u := (((uD (matF a) (k + 1)) * (uE (matF a) k i j)) - ((uE (matF a) k i k) * (uE (matF a) k j k))).fdiv (uD (matF a) k)) 1 rfl rfl rfl ty31 rfl (VP.le_refl _)) ?_
          refine WP.nil ?_
          refine QE.blkN ?_
          refine QE.next ?_
          refine CW.region ?_
          refine WP.s .n (O.add rfl rfl (c := ((k : Int) + 1)) (w64 (by omega))) ?_
          refine WP.s .n (O.mv rfl) ?_
          refine WP.nil ?_
          refine ST.obtold 1 rfl (OB.box_eq (y := (uE (matF a) (k + 1) i j)) (uE_succ _ k i j).symm) ?_
          exact QE.round2 (k + 1) p (by omega) (by omega) (Imp.cons rfl (Imp.cons rfl (Imp.cons rfl (Imp.cons rfl (Imp.cons rfl (Imp.cons rfl (Imp.cons rfl (Imp.cons rfl (Imp.cons rfl (Imp.consLe rfl (is_eq (y := (((k + 1) : Nat) : Int)) (by first | rfl | omega | assumption)) (Imp.cons rfl (Imp.cons rfl Imp.nil)))))))))))) (OImp.os (OS.skip (OS.keep (OS.keep (OS.keep (OS.keep (OS.keep (OS.keep OS.nil))))))))
        · refine CW.skip ?_
          refine QE.next ?_
          refine CW.seq ?_
          refine CW.draw (Γ := [.fr (VP.ex (.pointer (some ⟨b3, 0, none⟩))), .fr (VP.ex vD), .fr ((kInt .i64).is (k : Int)), .fr ((kInt .i64).is ((k : Int) + 1)), .fr (VP.pel vD ((((k : Int) + 1)).toNat * 2)), .fr (kC.is (uD (matF a) (k + 1))), .fr (kC.is (uE (matF a) k i j)), .fr (kC.is ((uD (matF a) (k + 1)) * (uE (matF a) k i j))), .fr (VP.ex v), .fr ((kInt .i64).is (k : Int)), .fr (VP.pel v (k * 2)), .fr (kC.is (uE (matF a) k i k)), .fr (VP.ex v), .fr ((kInt .i64).is (k : Int)), .fr (VP.pel v (k * 2)), .fr (kC.is (uE (matF a) k j k)), .fr (kC.is ((uE (matF a) k i k) * (uE (matF a) k j k))), .fr (kC.is (((uD (matF a) (k + 1)) * (uE (matF a) k i j)) - ((uE (matF a) k i k) * (uE (matF a) k j k)))), .al (fun b => OB.box b 31 kC 0)]) (lates := [false, false, false, false, false, false, false, false, false, false, false, false, false, false, false, false, false, false, false]) (by kernel_rfl) (Chk.of rfl (by kernel_rfl) rfl) (fun _ _ _ _ _ h => h) (fun q_ x_ h_ => ?_) (fun σ3 => ?_)
          · match q_, h_ with
            | 0, h_ => cases h_; exact Ob.f rfl .n fun N => (O.fa rfl fld93_0 rfl)
            | 1, h_ => cases h_; exact Ob.f rfl .n fun N => (OpOk.le (O.ld (p := kVal.is vD) rfl (mem_app N (mem_at 3 rfl)) (Lens.fst (Lens.id _)) ty27 rfl) (val_ex _))
            | 2, h_ => cases h_; exact Ob.f rfl .n fun N => (O.mv rfl)
            | 3, h_ => cases h_; exact Ob.f rfl .n fun N => (O.add rfl rfl (c := ((k : Int) + 1)) (w64 (by omega)))
            | 4, h_ => cases h_; exact Ob.f rfl .n fun N => (O.ixR (k := kC) (xs := (gDs (matF a) i)) (n := ((k : Int) + 1)) ((((k : Int) + 1)).toNat) rfl rfl (mem_app N (mem_at 4 rfl)) Try.underlying27 ty31 (by omega) (by first | omega | (simp only [gRow_len, gDs_len, gLs_len]; omega) | (have := hq i (by omega); omega)))
            | 5, h_ => cases h_; exact Ob.f rfl .n fun N => (O.ldR (k := kC) (xs := (gDs (matF a) i)) ((((k : Int) + 1)).toNat) rfl (mem_app N (mem_at 4 rfl)) (Lens.id _) (ho := rfl) (y := (uD (matF a) (k + 1))) (gDs_at (by omega)) ty31 rfl)
            | 6, h_ => cases h_; exact Ob.f rfl .n fun N => (O.ld rfl (mem_app N (mem_at 0 rfl)) (Lens.id _) ty31 rfl)
            | 7, h_ => cases h_; exact Ob.f rfl .n fun N => (O.fn fn76 (evs.l rfl (kC_Z (by first | assumption | exact (hE k (by omega) i j (by omega) (by omega)).sm (by omega) | exact (hE k (by omega) k k (by omega) (by omega)).sm (by omega) | exact (hE k (by omega) i k (by omega) (by omega)).sm (by omega) | exact (hE k (by omega) j k (by omega) (by omega)).sm (by omega) | exact (hE i (by omega) i i (by omega) (by omega)).sm (by omega) | exact (hD k (by omega)).sm (by omega) | exact (((hE k (by omega) k k (by omega) (by omega)).mul (hE k (by omega) i j (by omega) (by omega))).sub ((hE k (by omega) i k (by omega) (by omega)).mul (hE k (by omega) j k (by omega) (by omega)))).sm (by omega) | exact ((hE k (by omega) k k (by omega) (by omega)).mul (hE k (by omega) i j (by omega) (by omega))).sm (by omega) | exact ((hE k (by omega) i k (by omega) (by omega)).mul (hE k (by omega) j k (by omega) (by omega))).sm (by omega))) (evs.l rfl (kC_Z (by first | assumption | exact (hE k (by omega) i j (by omega) (by omega)).sm (by omega) | exact (hE k (by omega) k k (by omega) (by omega)).sm (by omega) | exact (hE k (by omega) i k (by omega) (by omega)).sm (by omega) | exact (hE k (by omega) j k (by omega) (by omega)).sm (by omega) | exact (hE i (by omega) i i (by omega) (by omega)).sm (by omega) | exact (hD k (by omega)).sm (by omega) | exact (((hE k (by omega) k k (by omega) (by omega)).mul (hE k (by omega) i j (by omega) (by omega))).sub ((hE k (by omega) i k (by omega) (by omega)).mul (hE k (by omega) j k (by omega) (by omega)))).sm (by omega) | exact ((hE k (by omega) k k (by omega) (by omega)).mul (hE k (by omega) i j (by omega) (by omega))).sm (by omega) | exact ((hE k (by omega) i k (by omega) (by omega)).mul (hE k (by omega) j k (by omega) (by omega))).sm (by omega))) evs.nil)) (c_zint_Mul (uD (matF a) (k + 1)) (uE (matF a) k i j)))
            | 8, h_ => cases h_; exact Ob.f rfl .n fun N => (O.mv rfl)
            | 9, h_ => cases h_; exact Ob.f rfl .n fun N => (O.mv rfl)
            | 10, h_ => cases h_; exact Ob.f rfl .n fun N => (O.ixR (k := kC) (xs := (gRow (matF a) i j)) (n := (k : Int)) k rfl rfl (mem_app N (mem_at 1 rfl)) Try.underlying27 ty31 rfl (by first | omega | (simp only [gRow_len, gDs_len, gLs_len]; omega) | (have := hq i (by omega); omega)))
            | 11, h_ => cases h_; exact Ob.f rfl .n fun N => (O.ldR (k := kC) (xs := (gRow (matF a) i j)) k rfl (mem_app N (mem_at 1 rfl)) (Lens.id _) (ho := rfl) (y := (uE (matF a) k i k)) (gRow_at (by omega)) ty31 rfl)
            | 12, h_ => cases h_; exact Ob.f rfl .n fun N => (O.mv rfl)
            | 13, h_ => cases h_; exact Ob.f rfl .n fun N => (O.mv rfl)
            | 14, h_ => cases h_; exact Ob.f rfl .n fun N => (O.ixR (k := kC) (xs := (gRow (matF a) i j)) (n := (k : Int)) k rfl rfl (mem_app N (mem_at 1 rfl)) Try.underlying27 ty31 rfl (by first | omega | (simp only [gRow_len, gDs_len, gLs_len]; omega) | (have := hq i (by omega); omega)))
            | 15, h_ => cases h_; exact Ob.f rfl .n fun N => (O.ldR (k := kC) (xs := (gRow (matF a) i j)) k rfl (mem_app N (mem_at 1 rfl)) (Lens.id _) (ho := rfl) (y := (uE (matF a) k j k)) (by rw [show j = i by omega]; exact gRow_at (by omega)) ty31 rfl)
            | 16, h_ => cases h_; exact Ob.f rfl .n fun N => (O.fn fn76 (evs.l rfl (kC_Z (by first | assumption | exact (hE k (by omega) i j (by omega) (by omega)).sm (by omega) | exact (hE k (by omega) k k (by omega) (by omega)).sm (by omega) | exact (hE k (by omega) i k (by omega) (by omega)).sm (by omega) | exact (hE k (by omega) j k (by omega) (by omega)).sm (by omega) | exact (hE i (by omega) i i (by omega) (by omega)).sm (by omega) | exact (hD k (by omega)).sm (by omega) | exact (((hE k (by omega) k k (by omega) (by omega)).mul (hE k (by omega) i j (by omega) (by omega))).sub ((hE k (by omega) i k (by omega) (by omega)).mul (hE k (by omega) j k (by omega) (by omega)))).sm (by omega) | exact ((hE k (by omega) k k (by omega) (by omega)).mul (hE k (by omega) i j (by omega) (by omega))).sm (by omega) | exact ((hE k (by omega) i k (by omega) (by omega)).mul (hE k (by omega) j k (by omega) (by omega))).sm (by omega))) (evs.l rfl (kC_Z (by first | assumption | exact (hE k (by omega) i j (by omega) (by omega)).sm (by omega) | exact (hE k (by omega) k k (by omega) (by omega)).sm (by omega) | exact (hE k (by omega) i k (by omega) (by omega)).sm (by omega) | exact (hE k (by omega) j k (by omega) (by omega)).sm (by omega) | exact (hE i (by omega) i i (by omega) (by omega)).sm (by omega) | exact (hD k (by omega)).sm (by omega) | exact (((hE k (by omega) k k (by omega) (by omega)).mul (hE k (by omega) i j (by omega) (by omega))).sub ((hE k (by omega) i k (by omega) (by omega)).mul (hE k (by omega) j k (by omega) (by omega)))).sm (by omega) | exact ((hE k (by omega) k k (by omega) (by omega)).mul (hE k (by omega) i j (by omega) (by omega))).sm (by omega) | exact ((hE k (by omega) i k (by omega) (by omega)).mul (hE k (by omega) j k (by omega) (by omega))).sm (by omega))) evs.nil)) (c_zint_Mul (uE (matF a) k i k) (uE (matF a) k j k)))
            | 17, h_ => cases h_; exact Ob.f rfl .n fun N => (O.fn fn157 (evs.l rfl (kC_Z (by first | assumption | exact (hE k (by omega) i j (by omega) (by omega)).sm (by omega) | exact (hE k (by omega) k k (by omega) (by omega)).sm (by omega) | exact (hE k (by omega) i k (by omega) (by omega)).sm (by omega) | exact (hE k (by omega) j k (by omega) (by omega)).sm (by omega) | exact (hE i (by omega) i i (by omega) (by omega)).sm (by omega) | exact (hD k (by omega)).sm (by omega) | exact (((hE k (by omega) k k (by omega) (by omega)).mul (hE k (by omega) i j (by omega) (by omega))).sub ((hE k (by omega) i k (by omega) (by omega)).mul (hE k (by omega) j k (by omega) (by omega)))).sm (by omega) | exact ((hE k (by omega) k k (by omega) (by omega)).mul (hE k (by omega) i j (by omega) (by omega))).sm (by omega) | exact ((hE k (by omega) i k (by omega) (by omega)).mul (hE k (by omega) j k (by omega) (by omega))).sm (by omega))) (evs.l rfl (kC_Z (by first | assumption | exact (hE k (by omega) i j (by omega) (by omega)).sm (by omega) | exact (hE k (by omega) k k (by omega) (by omega)).sm (by omega) | exact (hE k (by omega) i k (by omega) (by omega)).sm (by omega) | exact (hE k (by omega) j k (by omega) (by omega)).sm (by omega) | exact (hE i (by omega) i i (by omega) (by omega)).sm (by omega) | exact (hD k (by omega)).sm (by omega) | exact (((hE k (by omega) k k (by omega) (by omega)).mul (hE k (by omega) i j (by omega) (by omega))).sub ((hE k (by omega) i k (by omega) (by omega)).mul (hE k (by omega) j k (by omega) (by omega)))).sm (by omega) | exact ((hE k (by omega) k k (by omega) (by omega)).mul (hE k (by omega) i j (by omega) (by omega))).sm (by omega) | exact ((hE k (by omega) i k (by omega) (by omega)).mul (hE k (by omega) j k (by omega) (by omega))).sm (by omega))) evs.nil)) (c_zint_Sub ((uD (matF a) (k + 1)) * (uE (matF a) k i j)) ((uE (matF a) k i k) * (uE (matF a) k j k))))
            | 18, h_ => cases h_; exact Ob.a rfl z31_C
            | n_ + 19, h_ => simp at h_
          refine WP.t .n (O.stW (l := kC) (u := ((uD (matF a) (k + 1)) * (uE (matF a) k i j)) - ((uE (matF a) k i k) * (uE (matF a) k j k))) 0 rfl rfl rfl ty31 rfl (VP.le_refl _)) ?_
          refine WP.nil ?_
          refine QE.next ?_
          refine CW.draw (Γ := [.fr (kC.is (((uD (matF a) (k + 1)) * (uE (matF a) k i j)) - ((uE (matF a) k i k) * (uE (matF a) k j k)))), .fr (VP.ex (.pointer (some ⟨b3, 0, none⟩))), .fr (VP.ex vD), .fr ((kInt .i64).is (k : Int)), .fr (VP.pel vD (k * 2)), .fr (kC.is (uD (matF a) k)), .fr (VP.tup [kC.is ((((uD (matF a) (k + 1)) * (uE (matF a) k i j)) - ((uE (matF a) k i k) * (uE (matF a) k j k))).fdiv (uD (matF a) k)), kC.is (if (uD (matF a) k) = 0 then 0 else (((uD (matF a) (k + 1)) * (uE (matF a) k i j)) - ((uE (matF a) k i k) * (uE (matF a) k j k))).fmod (uD (matF a) k)), (kInt .i64).is (if (uD (matF a) k) = 0 then 11 else 0)]), .fr (VP.tup [kC.is ((((uD (matF a) (k + 1)) * (uE (matF a) k i j)) - ((uE (matF a) k i k) * (uE (matF a) k j k))).fdiv (uD (matF a) k)), kC.is (if (uD (matF a) k) = 0 then 0 else (((uD (matF a) (k + 1)) * (uE (matF a) k i j)) - ((uE (matF a) k i k) * (uE (matF a) k j k))).fmod (uD (matF a) k)), (kInt .i64).is (if (uD (matF a) k) = 0 then 11 else 0)]), .fr (kC.is ((((uD (matF a) (k + 1)) * (uE (matF a) k i j)) - ((uE (matF a) k i k) * (uE (matF a) k j k))).fdiv (uD (matF a) k))), .lt (kC.is (if (uD (matF a) k) = 0 then 0 else (((uD (matF a) (k + 1)) * (uE (matF a) k i j)) - ((uE (matF a) k i k) * (uE (matF a) k j k))).fmod (uD (matF a) k))), .lt ((kInt .i64).is (if (uD (matF a) k) = 0 then 11 else 0))]) (lates := [false, false, false, false, false, false, false, false, false, true, true]) (by kernel_rfl) (Chk.of rfl (by kernel_rfl) rfl) (fun _ _ _ _ _ h => h) (fun q_ x_ h_ => ?_) (fun σ4 => ?_)
          · match q_, h_ with
            | 0, h_ => cases h_; exact Ob.f rfl .n fun N => (O.ld rfl (mem_app N (mem_at 0 rfl)) (Lens.id _) ty31 rfl)
            | 1, h_ => cases h_; exact Ob.f rfl .n fun N => (O.fa rfl fld93_0 rfl)
            | 2, h_ => cases h_; exact Ob.f rfl .n fun N => (OpOk.le (O.ld (p := kVal.is vD) rfl (mem_app N (mem_at 4 rfl)) (Lens.fst (Lens.id _)) ty27 rfl) (val_ex _))
            | 3, h_ => cases h_; exact Ob.f rfl .n fun N => (O.mv rfl)
            | 4, h_ => cases h_; exact Ob.f rfl .n fun N => (O.ixR (k := kC) (xs := (gDs (matF a) i)) (n := (k : Int)) k rfl rfl (mem_app N (mem_at 5 rfl)) Try.underlying27 ty31 rfl (by first | omega | (simp only [gRow_len, gDs_len, gLs_len]; omega) | (have := hq i (by omega); omega)))
            | 5, h_ => cases h_; exact Ob.f rfl .n fun N => (O.ldR (k := kC) (xs := (gDs (matF a) i)) k rfl (mem_app N (mem_at 5 rfl)) (Lens.id _) (ho := rfl) (y := (uD (matF a) k)) (gDs_at (by omega)) ty31 rfl)
            | 6, h_ => cases h_; exact Ob.f rfl .n fun N => (O.fn fn105 (evs.l rfl (kC_Z (by first | assumption | exact (hE k (by omega) i j (by omega) (by omega)).sm (by omega) | exact (hE k (by omega) k k (by omega) (by omega)).sm (by omega) | exact (hE k (by omega) i k (by omega) (by omega)).sm (by omega) | exact (hE k (by omega) j k (by omega) (by omega)).sm (by omega) | exact (hE i (by omega) i i (by omega) (by omega)).sm (by omega) | exact (hD k (by omega)).sm (by omega) | exact (((hE k (by omega) k k (by omega) (by omega)).mul (hE k (by omega) i j (by omega) (by omega))).sub ((hE k (by omega) i k (by omega) (by omega)).mul (hE k (by omega) j k (by omega) (by omega)))).sm (by omega) | exact ((hE k (by omega) k k (by omega) (by omega)).mul (hE k (by omega) i j (by omega) (by omega))).sm (by omega) | exact ((hE k (by omega) i k (by omega) (by omega)).mul (hE k (by omega) j k (by omega) (by omega))).sm (by omega))) (evs.l rfl (kC_Z (by first | assumption | exact (hE k (by omega) i j (by omega) (by omega)).sm (by omega) | exact (hE k (by omega) k k (by omega) (by omega)).sm (by omega) | exact (hE k (by omega) i k (by omega) (by omega)).sm (by omega) | exact (hE k (by omega) j k (by omega) (by omega)).sm (by omega) | exact (hE i (by omega) i i (by omega) (by omega)).sm (by omega) | exact (hD k (by omega)).sm (by omega) | exact (((hE k (by omega) k k (by omega) (by omega)).mul (hE k (by omega) i j (by omega) (by omega))).sub ((hE k (by omega) i k (by omega) (by omega)).mul (hE k (by omega) j k (by omega) (by omega)))).sm (by omega) | exact ((hE k (by omega) k k (by omega) (by omega)).mul (hE k (by omega) i j (by omega) (by omega))).sm (by omega) | exact ((hE k (by omega) i k (by omega) (by omega)).mul (hE k (by omega) j k (by omega) (by omega))).sm (by omega))) evs.nil)) (c_zint_Floor (((uD (matF a) (k + 1)) * (uE (matF a) k i j)) - ((uE (matF a) k i k) * (uE (matF a) k j k))) (uD (matF a) k)))
            | 7, h_ => cases h_; exact Ob.f rfl .n fun N => (O.mv rfl)
            | 8, h_ => cases h_; exact Ob.f rfl .n fun N => (O.ext rfl rfl)
            | 9, h_ => cases h_; exact Ob.l rfl .n (OV.ext rfl rfl)
            | 10, h_ => cases h_; exact Ob.l rfl .n (OV.ext rfl rfl)
            | n_ + 11, h_ => simp at h_
          refine WP.t .n (O.stW (l := kC) (u := (((uD (matF a) (k + 1)) * (uE (matF a) k i j)) - ((uE (matF a) k i k) * (uE (matF a) k j k))).fdiv (uD (matF a) k)) 1 rfl rfl rfl ty31 rfl (VP.le_refl _)) ?_
          refine WP.nil ?_
          refine QE.blkN ?_
          refine QE.next ?_
          refine CW.region ?_
          refine WP.s .n (O.add rfl rfl (c := ((k : Int) + 1)) (w64 (by omega))) ?_
          refine WP.s .n (O.mv rfl) ?_
          refine WP.nil ?_
          refine ST.obtold 1 rfl (OB.box_eq (y := (uE (matF a) (k + 1) i j)) (uE_succ _ k i j).symm) ?_
          exact QE.round2 (k + 1) p (by omega) (by omega) (Imp.cons rfl (Imp.cons rfl (Imp.cons rfl (Imp.cons rfl (Imp.cons rfl (Imp.cons rfl (Imp.cons rfl (Imp.cons rfl (Imp.cons rfl (Imp.consLe rfl (is_eq (y := (((k + 1) : Nat) : Int)) (by first | rfl | omega | assumption)) (Imp.cons rfl (Imp.cons rfl Imp.nil)))))))))))) (OImp.os (OS.skip (OS.keep (OS.keep (OS.keep (OS.keep (OS.keep (OS.keep OS.nil))))))))
      · refine CW.exit ?_
        refine QE.thenE ?_
        refine QE.thenE ?_
        refine QE.blkH ?_
        refine QE.next ?_
        refine CW.region ?_
        refine WP.s .n (O.mv rfl) ?_
        refine WP.s .n (O.ld rfl (mem_at 0 rfl) (Lens.id _) ty31 rfl) ?_
        refine WP.s .n (O.bs Try.underlying27 el31_C (evl.c rfl evl.n) rfl (by decide)) ?_
        refine WP.ap 1 .n rfl rfl rfl (VP.le_refl _) Try.underlying27 el31_C (by simp only [gRow_len, gDs_len, gLs_len, List.length_cons, List.length_nil]; omega) fun v5 => ?_
        refine WP.s .n (O.asg rfl) ?_
        refine WP.nil ?_
        refine QE.blkN ?_
        refine QE.next ?_
        refine CW.region ?_
        refine WP.s .n (O.mv rfl) ?_
        refine WP.s .n (O.add rfl rfl (c := ((j : Int) + 1)) (w64 (by omega))) ?_
        refine WP.s .n (O.asg rfl) ?_
        refine WP.nil ?_
        refine ST.obtold 1 rfl (OB.row_eq (ys := (gRow (matF a) i (j + 1))) (by rw [show k = j by omega]; exact gRow_app (matF a) i j)) ?_
        exact QE.round2 (j + 1) v5 (by omega) (by omega) (Imp.cons rfl (Imp.cons rfl (Imp.cons rfl (Imp.cons rfl (Imp.cons rfl (Imp.cons rfl (Imp.consLe rfl (is_eq (y := (((j + 1) : Nat) : Int)) (by first | rfl | omega | assumption)) (Imp.cons rfl (Imp.cons rfl Imp.nil))))))))) (OImp.os (OS.skip (OS.keep (OS.keep (OS.keep (OS.keep (OS.keep OS.nil)))))))
    · refine CW.exit ?_
      refine QE.thenE ?_
      refine QE.thenE ?_
      refine QE.blkH ?_
      refine QE.next ?_
      refine CW.seq ?_
      refine CW.seq ?_
      refine ST.obtold 0 rfl (OB.row_eq (ys := (gRow (matF a) i (i + 1))) (by rw [show j = i + 1 by omega])) ?_
      have hE := uE_Sz hs hz hP
      have hD := uD_Sz hs hz hP
      have hUi := hU i (by omega)
      refine CW.region ?_
      refine WP.s .n (O.mv rfl) ?_
      refine WP.s .n (O.mv rfl) ?_
      refine WP.s .n (O.ixR (k := kC) (xs := (gRow (matF a) i (i + 1))) (n := (i : Int)) i rfl rfl (mem_at 0 rfl) Try.underlying27 ty31 rfl (by first | omega | (simp only [gRow_len, gDs_len, gLs_len]; omega) | (have := hq i (by omega); omega))) ?_
      refine WP.s .n (O.ldR (k := kC) (xs := (gRow (matF a) i (i + 1))) i rfl (mem_at 0 rfl) (Lens.id _) (ho := rfl) (y := (uE (matF a) i i i)) (gRow_at (by omega)) ty31 rfl) ?_
      refine WP.s .n (O.fn fn80 (evs.l rfl (kC_Z (by first | assumption | exact (hE k (by omega) i j (by omega) (by omega)).sm (by omega) | exact (hE k (by omega) k k (by omega) (by omega)).sm (by omega) | exact (hE k (by omega) i k (by omega) (by omega)).sm (by omega) | exact (hE k (by omega) j k (by omega) (by omega)).sm (by omega) | exact (hE i (by omega) i i (by omega) (by omega)).sm (by omega) | exact (hD k (by omega)).sm (by omega) | exact (((hE k (by omega) k k (by omega) (by omega)).mul (hE k (by omega) i j (by omega) (by omega))).sub ((hE k (by omega) i k (by omega) (by omega)).mul (hE k (by omega) j k (by omega) (by omega)))).sm (by omega) | exact ((hE k (by omega) k k (by omega) (by omega)).mul (hE k (by omega) i j (by omega) (by omega))).sm (by omega) | exact ((hE k (by omega) i k (by omega) (by omega)).mul (hE k (by omega) j k (by omega) (by omega))).sm (by omega))) evs.nil) (c_zint_Sign (uE (matF a) i i i))) ?_
      refine WP.s .n (O.le rfl rfl) ?_
      refine WP.nil ?_
      refine QE.next ?_
      refine CW.condD rfl (fun h_t85 => ?_) (fun h_t85 => ?_)
      · refine CW.seq ?_
        refine CW.region ?_
        refine WP.s .n (O.bld lit93_pr_sl_C_sl_sl_C_ rfl evp.n (.nil _)) ?_
        refine WP.t .n (O.stW (l := (kPair (kSl kC) (kSl (kSl kC)))) (u := ([], [])) 4 rfl rfl rfl ty93 rfl (VP.le_refl _)) ?_
        refine WP.s .n (O.asg rfl) ?_
        refine WP.nil ?_
        refine QE.next ?_
        refine CW.ret ?_
        refine QE.thenR ?_
        refine QE.blkR ?_
        refine QE.thenR ?_
        refine QE.thenR ?_
        refine QE.blkR ?_
        refine QE.thenR ?_
        refine ST.obtold 4 rfl (OB.box_eq (y := (gsoV (matF a) a.length)) (gso_no (by omega) h_t85).2.symm) ?_
        refine ST.told 3 rfl (is_eq (y := (gOk (matF a) a.length)) (gso_no (by omega) h_t85).1.symm) ?_
        exact QE.done (.inl rfl) rfl (ResOk.c rfl (mem_at 4 rfl) ty93 (ResOk.t rfl ResOk.nil)) (OImp.sub (List.nil_sublist _)) ⟨rfl, rfl⟩
      · refine CW.skip ?_
        refine QE.next ?_
        refine CW.seq ?_
        refine CW.draw (Γ := [.fr (VP.ex (.pointer (some ⟨b3, 0, none⟩))), .fr (VP.ex vD), .fr (VP.ex v), .fr ((kInt .i64).is (i : Int)), .fr (VP.pel v (i * 2)), .fr (kC.is (uE (matF a) i i i)), .fr ((kSl kC).is [(uE (matF a) i i i)])]) (lates := [false, false, false, false, false, false, false]) (by kernel_rfl) (Chk.of rfl (by kernel_rfl) rfl) (fun _ _ _ _ _ h => h) (fun q_ x_ h_ => ?_) (fun σ5 => ?_)
        · match q_, h_ with
          | 0, h_ => cases h_; exact Ob.f rfl .n fun N => (O.fa rfl fld93_0 rfl)
          | 1, h_ => cases h_; exact Ob.f rfl .n fun N => (OpOk.le (O.ld (p := kVal.is vD) rfl (mem_app N (mem_at 2 rfl)) (Lens.fst (Lens.id _)) ty27 rfl) (val_ex _))
          | 2, h_ => cases h_; exact Ob.f rfl .n fun N => (O.mv rfl)
          | 3, h_ => cases h_; exact Ob.f rfl .n fun N => (O.mv rfl)
          | 4, h_ => cases h_; exact Ob.f rfl .n fun N => (O.ixR (k := kC) (xs := (gRow (matF a) i (i + 1))) (n := (i : Int)) i rfl rfl (mem_app N (mem_at 0 rfl)) Try.underlying27 ty31 rfl (by first | omega | (simp only [gRow_len, gDs_len, gLs_len]; omega) | (have := hq i (by omega); omega)))
          | 5, h_ => cases h_; exact Ob.f rfl .n fun N => (O.ldR (k := kC) (xs := (gRow (matF a) i (i + 1))) i rfl (mem_app N (mem_at 0 rfl)) (Lens.id _) (ho := rfl) (y := (uE (matF a) i i i)) (gRow_at (by omega)) ty31 rfl)
          | 6, h_ => cases h_; exact Ob.f rfl .n fun N => (O.bs Try.underlying27 el31_C (evl.c rfl evl.n) rfl (by decide))
          | n_ + 7, h_ => simp at h_
        refine WP.ap 3 .n rfl rfl rfl (VP.le_refl _) Try.underlying27 el31_C (by simp only [gRow_len, gDs_len, gLs_len, List.length_cons, List.length_nil]; omega) fun v6 => ?_
        refine WP.s .n (O.fa rfl fld93_0 rfl) ?_
        refine ST.rowcell 3 rfl fun hcell_ => ?_
        refine WP.t .n (O.st 2 rfl rfl (Lens.fst (Lens.id _)) ty27 rfl (ex_val (by first | rfl | assumption))) ?_
        refine WP.nil ?_
        refine QE.next ?_
        refine ST.freeze 0 rfl (.keep (i := 0) rfl (.keep (i := 2) rfl (.keep (i := 3) rfl (.keep (i := 4) rfl (.keep (i := 5) rfl (.hit (i := 6) rfl (.keep (i := 7) rfl (.keep (i := 16) rfl (.keep (i := 17) rfl (.keep (i := 20) rfl (.keep (i := 21) rfl (.keep (i := 22) rfl (.hit (i := 80) rfl (.keep (i := 81) rfl (.keep (i := 82) rfl (.keep (i := 83) rfl (.keep (i := 84) rfl (.keep (i := 85) rfl (.keep (i := 87) rfl (.keep (i := 88) rfl (.hit (i := 89) rfl (.keep (i := 90) rfl (.keep (i := 91) rfl (.keep (i := 92) rfl (.keep (i := 93) rfl (.keep (i := 94) rfl (.keep (i := 95) rfl .nil))))))))))))))))))))))))))) ?_
        refine CW.draw (Γ := [.fr (VP.ex (.pointer (some ⟨b3, 1, none⟩))), .fr (VP.ex vL), .fr ((kSl kC).is (gRow (matF a) i (i + 1))), .fr ((kInt .i64).is (i : Int)), .fr ((kInt .i64).is (i : Int)), .fr ((kSl kC).is ((gRow (matF a) i (i + 1)).take i)), .fr ((kSl (kSl kC)).is [((gRow (matF a) i (i + 1)).take i)])]) (lates := [false, false, false, false, false, false, false]) (by kernel_rfl) (Chk.of rfl (by kernel_rfl) rfl) (fun _ _ _ _ _ h => h) (fun q_ x_ h_ => ?_) (fun σ6 => ?_)
        · match q_, h_ with
          | 0, h_ => cases h_; exact Ob.f rfl .n fun N => (O.fa rfl fld93_1 rfl)
          | 1, h_ => cases h_; exact Ob.f rfl .n fun N => (OpOk.le (O.ld (p := kVal.is vL) rfl (mem_app N (mem_at 1 rfl)) (Lens.snd (Lens.id _)) ty67 rfl) (val_ex _))
          | 2, h_ => cases h_; exact Ob.f rfl .n fun N => (O.mv rfl)
          | 3, h_ => cases h_; exact Ob.f rfl .n fun N => (O.mv rfl)
          | 4, h_ => cases h_; exact Ob.f rfl .n fun N => (O.mv rfl)
          | 5, h_ => cases h_; exact Ob.f rfl .n fun N => (O.sl3 i rfl rfl rfl Try.underlying27 ty31 rfl rfl (by first | omega | (simp only [gRow_len, gDs_len, gLs_len]; omega) | (have := hq i (by omega); omega)))
          | 6, h_ => cases h_; exact Ob.f rfl .n fun N => (O.bs Try.underlying67 el27_sl_C (evl.c rfl evl.n) rfl (by decide))
          | n_ + 7, h_ => simp at h_
        refine WP.ap 0 .n rfl rfl rfl (VP.le_refl _) Try.underlying67 el27_sl_C (by simp only [gRow_len, gDs_len, gLs_len, List.length_cons, List.length_nil]; omega) fun v7 => ?_
        refine WP.s .n (O.fa rfl fld93_1 rfl) ?_
        refine ST.rowcell 0 rfl fun hcell_ => ?_
        refine WP.t .n (O.st 1 rfl rfl (Lens.snd (Lens.id _)) ty67 rfl (ex_val (by first | rfl | assumption))) ?_
        refine WP.nil ?_
        refine QE.blkN ?_
        refine QE.next ?_
        refine CW.region ?_
        refine WP.s .n (O.add rfl rfl (c := ((i : Int) + 1)) (w64 (by omega))) ?_
        refine WP.s .n (O.mv rfl) ?_
        refine WP.nil ?_
        refine ST.obtold 2 rfl (OB.row_eq (ys := (gDs (matF a) (i + 1))) (gDs_app (matF a) i)) ?_
        refine ST.obtold 0 rfl (OB.row_eq (ys := (gLs (matF a) (i + 1))) (by rw [gRow_take]; exact gLs_app (matF a) i)) ?_
        exact QE.round3 (i + 1) v6 v7 (by omega) ⟨by omega, posU_succ hP h_t85⟩ (Imp.cons rfl (Imp.cons rfl (Imp.cons rfl (Imp.cons rfl (Imp.cons rfl (Imp.consLe rfl (is_eq (y := (((i + 1) : Nat) : Int)) (by first | rfl | omega | assumption)) Imp.nil)))))) (OImp.refl _)
  · refine CW.exit ?_
    refine QE.thenE ?_
    refine QE.thenE ?_
    refine QE.blkH ?_
    refine QE.next ?_
    refine CW.seq ?_
    refine ST.freezeIn (k2 := (kPair (kSl kC) kVal)) ((gDs (matF a) i), vL) 2 1 rfl rfl (fun m_ cs_ h_ c_ => fz_fst m_ cs_ h_ c_) (.keep (i := 0) rfl (.keep (i := 2) rfl (.keep (i := 3) rfl (.keep (i := 4) rfl (.keep (i := 16) rfl (.keep (i := 17) rfl (.keep (i := 18) rfl .nil))))))) ?_
    refine ST.freezeIn (k2 := (kPair (kSl kC) (kSl (kSl kC)))) ((gDs (matF a) i), (gLs (matF a) i)) 0 0 rfl rfl (fun m_ cs_ h_ c_ => fz_snd m_ cs_ h_ c_) (.keep (i := 0) rfl (.keep (i := 2) rfl (.keep (i := 3) rfl (.keep (i := 4) rfl (.keep (i := 16) rfl (.keep (i := 17) rfl (.keep (i := 18) rfl .nil))))))) ?_
    have hib : i = a.length := by omega
    refine CW.region ?_
    refine WP.s .n (O.ld (p := (kPair (kSl kC) (kSl (kSl kC))).is ((gDs (matF a) i), (gLs (matF a) i))) rfl (mem_at 0 rfl) (Lens.id _) ty93 rfl) ?_
    refine WP.t .n (O.stW (l := (kPair (kSl kC) (kSl (kSl kC)))) (u := ((gDs (matF a) i), (gLs (matF a) i))) 1 rfl rfl rfl ty93 rfl (VP.le_refl _)) ?_
    refine WP.s .n (O.asg rfl) ?_
    refine WP.nil ?_
    refine QE.next ?_
    refine CW.ret ?_
    refine ST.obtold 1 rfl (OB.box_eq (y := (gsoV (matF a) a.length)) (by rw [hib]; rw [hib] at hP; exact (gso_yes hP).2.symm)) ?_
    refine ST.told 3 rfl (is_eq (y := (gOk (matF a) a.length)) (by rw [hib] at hP; exact (gso_yes hP).1.symm)) ?_
    exact QE.done (.inl rfl) rfl (ResOk.c rfl (mem_at 1 rfl) ty93 (ResOk.t rfl ResOk.nil)) (OImp.sub (List.nil_sublist _)) ⟨rfl, rfl⟩

set_option maxRecDepth 20000 in
set_option maxHeartbeats 1000000 in
theorem c_quad_Valid (a : List (List Int)) : Fn Try.prog 51 [(kSl (kSl kZ)).is a] ((kInt .i64).is (quadE a)) := by
  refine Con.enter Try.func51 rfl rfl fun m w => ?_
  refine CW.seq ?_
  refine CW.region ?_
  refine WP.s .n (O.asg rfl) ?_
  refine WP.nil ?_
  refine QE.next ?_
  refine CW.seq ?_
  refine CW.seq ?_
  refine CW.region ?_
  refine WP.s .n (O.mv rfl) ?_
  refine WP.s .n (O.fn fn112 (evs.c rfl evs.nil) (c_quad_shaped a)) ?_
  refine WP.s .n (O.asg rfl) ?_
  refine WP.nil ?_
  refine QE.next ?_
  refine CW.seq ?_
  refine CW.region ?_
  refine WP.s .n (O.mv rfl) ?_
  refine WP.s .n (O.ne rfl rfl) ?_
  refine WP.nil ?_
  refine QE.next ?_
  refine CW.condD rfl (fun h_t9 => ?_) (fun h_t9 => ?_)
  · refine CW.seq ?_
    refine CW.region ?_
    refine WP.s .n (O.mv rfl) ?_
    refine WP.s .n (O.asg rfl) ?_
    refine WP.nil ?_
    refine QE.next ?_
    refine CW.ret ?_
    refine QE.thenR ?_
    refine ST.told 2 rfl (is_eq (y := (quadE a)) (quadE_1 (by omega)).symm) ?_
    exact QE.done (.inl rfl) rfl (ResOk.t rfl ResOk.nil) (OImp.sub (List.nil_sublist _)) ⟨rfl, rfl⟩
  · refine CW.skip ?_
    refine QE.next ?_
    refine CW.seq ?_
    refine CW.seq ?_
    have hM := sqm_of (a := a) (by omega)
    refine CW.region ?_
    refine WP.s .n (O.mv rfl) ?_
    refine WP.s .n (O.fn fn113 (evs.c rfl evs.nil) (c_quad_data 256 a (by first | exact hM.z | exact hM.q | exact hM.s | exact hM.n | decide) (by first | exact hM.z | exact hM.q | exact hM.s | exact hM.n | decide) (by first | exact hM.z | exact hM.q | exact hM.s | exact hM.n | decide) (by first | exact hM.z | exact hM.q | exact hM.s | exact hM.n | decide) (by first | exact hM.z | exact hM.q | exact hM.s | exact hM.n | decide))) ?_
    refine WP.s .n (O.mv rfl) ?_
    refine WP.s .n (O.ext rfl rfl) ?_
    refine WP.s .n (O.ext rfl rfl) ?_
    refine WP.al .n z93_pr_sl_C_sl_sl_C_ fun b1 => ?_
    refine WP.t .n (O.stW (l := (kPair (kSl kC) (kSl (kSl kC)))) (u := gsoV (matF a) a.length) 0 rfl rfl rfl ty93 rfl (VP.le_refl _)) ?_
    refine WP.s .n (O.asg rfl) ?_
    refine WP.nil ?_
    refine QE.next ?_
    refine CW.seq ?_
    refine CW.region ?_
    refine WP.s .n (O.mv rfl) ?_
    refine WP.s .n (O.not rfl) ?_
    refine WP.nil ?_
    refine QE.next ?_
    refine CW.cond rfl (fun h_t17 => ?_) (fun h_t17 => ?_)
    · refine CW.seq ?_
      refine CW.region ?_
      refine WP.s .n (O.asg rfl) ?_
      refine WP.nil ?_
      refine QE.next ?_
      refine CW.ret ?_
      refine QE.thenR ?_
      refine ST.told 2 rfl (is_eq (y := (quadE a)) (quadE_2 (by omega) (by simpa using h_t17)).symm) ?_
      exact QE.done (.inl rfl) rfl (ResOk.t rfl ResOk.nil) (OImp.sub (List.nil_sublist _)) ⟨rfl, rfl⟩
    · refine CW.skip ?_
      refine QE.next ?_
      refine CW.seq ?_
      refine CW.region ?_
      refine WP.s .n (O.asg rfl) ?_
      refine WP.nil ?_
      refine QE.next ?_
      refine CW.ret ?_
      refine ST.told 2 rfl (is_eq (y := (quadE a)) (quadE_3 (by omega) (by simpa using h_t17)).symm) ?_
      exact QE.done (.inl rfl) rfl (ResOk.t rfl ResOk.nil) (OImp.sub (List.nil_sublist _)) ⟨rfl, rfl⟩

end Fw


/- Plain facts: products of rows as a form. -/
set_option linter.unusedVariables false
set_option linter.unusedSimpArgs false
set_option exponentiation.threshold 400
namespace Fw
open Go

theorem map_take_app {α β : Type} {l : List α} {F : α → β} {d : α} {i : Nat} (h : i < l.length) : (l.take i).map F ++ [F (l.getD i d)] = (l.take (i + 1)).map F := by
  rw [← take_app (d := d) h, List.map_append]; rfl
/-- a form's matrix acts by its entries alone -/
theorem uE_congr {G H : Nat → Nat → Int} {n : Nat} (h : ∀ i j, i < n → j < n → G i j = H i j) : ∀ k i j, k ≤ n → i < n → j < n → uE G k i j = uE H k i j ∧ uD G k = uD H k
  | 0, i, j, _, hi, hj => ⟨h i j hi hj, rfl⟩
  | k + 1, i, j, hk, hi, hj => by
    have e1 := uE_congr h k i j (by omega) hi hj
    have e2 := (uE_congr h k i k (by omega) hi (by omega)).1
    have e3 := (uE_congr h k j k (by omega) hj (by omega)).1
    have e4 := (uE_congr h k k k (by omega) (by omega) (by omega)).1
    have e5 : uD G (k + 1) = uD H (k + 1) := e4
    exact ⟨by rw [uE_succ, uE_succ, e5, e1.1, e2, e3, e1.2], e5⟩
theorem uD_congr {G H : Nat → Nat → Int} {n : Nat} (h : ∀ i j, i < n → j < n → G i j = H i j) {k} (hk : k ≤ n) : uD G k = uD H k := by
  cases k with
  | zero => rfl
  | succ k => exact (uE_congr h k k k (by omega) (by omega) (by omega)).1
theorem getD_map {α β : Type} (F : α → β) (l : List α) (d : α) (e : β) {i : Nat} (h : i < l.length) : (l.map F).getD i e = F (l.getD i d) := by
  rw [gde _ e (by simpa using h), gde _ d h]; simp
theorem slslC_Z {xs : List (List Int)} (h : ∀ r ∈ xs, ∀ x ∈ r, Sm x) : VP.le ((kSl (kSl kC)).is xs) ((kSl (kSl kZ)).is xs) :=
  is_kd rfl fun m cs hx => sl_kd (f := fun r s => r = s ∧ ∀ x ∈ r, Sm x) (fun m cs r s hrs hr => by
    obtain ⟨rfl, h2⟩ := hrs
    exact sl_kd (f := fun x y => x = y ∧ Sm x) (fun m cs x y hxy hx => by obtain ⟨rfl, h4⟩ := hxy; exact kC_Zat h4 hx) (F2.same h2) hr) (F2.same h) hx
theorem SzM_mem {n b} (h : SzM n b) {r : List Int} (hr : r ∈ b) : SzL n r := by
  obtain ⟨i, hi, rfl⟩ := mem_getD [] hr
  exact h i
theorem SzM.sm {n b} (h : SzM n b) (hn : n ≤ 549755813888) : ∀ r ∈ b, ∀ x ∈ r, Sm x := fun r hr => (SzM_mem h hr).sm hn
theorem qv_1 {a x} (h : quadE a ≠ 0) : qvalV a x = 0 ∧ qvalE a x = quadE a := ⟨if_pos h, if_pos h⟩
theorem qv_2 {a : List (List Int)} {x : List Int} (h : ¬ quadE a ≠ 0) (hl : x.length ≠ a.length) : qvalV a x = 0 ∧ qvalE a x = 8 := by
  unfold qvalV qvalE; rw [if_neg h, if_neg h, if_neg hl, if_neg hl]; exact ⟨rfl, rfl⟩
theorem qv_3 {a : List (List Int)} {x : List Int} (h : ¬ quadE a ≠ 0) (hl : x.length = a.length) : qvalV a x = qval a x ∧ qvalE a x = 0 := by
  unfold qvalV qvalE; rw [if_neg h, if_neg h, if_pos hl, if_pos hl]; exact ⟨rfl, rfl⟩
theorem quadR_1 {a} (h : quadE a ≠ 0) : ([], []) = quadR a := (if_pos h).symm
end Fw


/- Values of forms; products of rows; QuadRows. -/
set_option linter.unusedVariables false
set_option linter.unusedSimpArgs false
set_option exponentiation.threshold 400
namespace Fw
open Go Go.Proofs

set_option maxRecDepth 20000 in
set_option maxHeartbeats 1000000 in
theorem c_law22_eqs (x y : List Int) : Fn Try.prog 58 [(kSl kC).is x, (kSl kC).is y] (kBool.is (decide (x = y))) := by
  refine Con.enter Try.func58 rfl rfl fun m w => ?_
  refine ST.fact (i := 0) rfl sl_len fun hB => ?_
  refine CW.seq ?_
  refine CW.region ?_
  refine WP.s .n (O.asg rfl) ?_
  refine WP.nil ?_
  refine QE.next ?_
  refine CW.seq ?_
  refine CW.seq ?_
  refine CW.region ?_
  refine WP.s .n (O.mv rfl) ?_
  refine WP.s .n (O.lenS rfl Try.underlying27) ?_
  refine WP.s .n (O.mv rfl) ?_
  refine WP.s .n (O.lenS rfl Try.underlying27) ?_
  refine WP.s .n (O.ne rfl rfl) ?_
  refine WP.nil ?_
  refine QE.next ?_
  refine CW.condD rfl (fun h_t10 => ?_) (fun h_t10 => ?_)
  · refine CW.seq ?_
    refine CW.region ?_
    refine WP.s .n (O.asg rfl) ?_
    refine WP.nil ?_
    refine QE.next ?_
    refine CW.ret ?_
    refine QE.thenR ?_
    refine ST.told 4 rfl (is_eq (y := (decide (x = y))) (by rw [eq_comm, decide_eq_false_iff_not]; intro e; exact h_t10 (by rw [e]))) ?_
    exact QE.done (.inl rfl) rfl (ResOk.t rfl ResOk.nil) (OImp.sub (List.nil_sublist _)) ⟨rfl, rfl⟩
  · refine CW.skip ?_
    refine QE.next ?_
    refine CW.seq ?_
    refine CW.seq ?_
    refine CW.region ?_
    refine WP.s .n (O.asg rfl) ?_
    refine WP.nil ?_
    refine QE.next ?_
    refine CW.block ?_
    refine CW.loop (fun (i : Nat) => i ≤ x.length ∧ x.take i = y.take i) (fun (i : Nat) => [(0, (kSl kC).is x), (1, (kSl kC).is y), (5, (kInt .i64).is (i : Int))]) (fun (i : Nat) => []) (fun (i : Nat) => x.length - i) 0 ⟨Nat.zero_le _, rfl⟩ (Imp.cons rfl (Imp.cons rfl (Imp.consLe rfl (is_eq (y := (0 : Int)) (by omega)) Imp.nil))) (OImp.refl _) ?_
    intro i ⟨hi, ht⟩
    refine CW.seq ?_
    refine CW.seq ?_
    refine CW.region ?_
    refine WP.s .n (O.mv rfl) ?_
    refine WP.s .n (O.mv rfl) ?_
    refine WP.s .n (O.lenS rfl Try.underlying27) ?_
    refine WP.s .n (O.lt rfl rfl) ?_
    refine WP.nil ?_
    refine QE.next ?_
    refine CW.condD rfl (fun h_t14 => ?_) (fun h_t14 => ?_)
    · refine CW.skip ?_
      refine QE.next ?_
      refine CW.seq ?_
      refine CW.block ?_
      refine CW.seq ?_
      refine CW.draw (Γ := [.fr ((kSl kC).is x), .fr ((kInt .i64).is (i : Int)), .fr (VP.pim kC (x.getD i 0)), .fr (kC.is (x.getD i 0)), .fr ((kSl kC).is y), .fr ((kInt .i64).is (i : Int)), .fr (VP.pim kC (y.getD i 0)), .fr (kC.is (y.getD i 0)), .fr (kBool.is (decide ((canon (x.getD i 0)) = (canon (y.getD i 0))))), .fr (kBool.is (!(decide ((canon (x.getD i 0)) = (canon (y.getD i 0))))))]) (lates := [false, false, false, false, false, false, false, false, false, false]) (by kernel_rfl) (Chk.of rfl (by kernel_rfl) rfl) (fun _ _ _ _ _ h => h) (fun q_ x_ h_ => ?_) (fun σ1 => ?_)
      · match q_, h_ with
        | 0, h_ => cases h_; exact Ob.f rfl .n fun N => (O.mv rfl)
        | 1, h_ => cases h_; exact Ob.f rfl .n fun N => (O.mv rfl)
        | 2, h_ => cases h_; exact Ob.f rfl .n fun N => (O.ix i rfl rfl Try.underlying27 ty31 rfl (v := (x.getD i 0)) (gd 0 (by omega)))
        | 3, h_ => cases h_; exact Ob.f rfl .n fun N => (O.ldP rfl ty31)
        | 4, h_ => cases h_; exact Ob.f rfl .n fun N => (O.mv rfl)
        | 5, h_ => cases h_; exact Ob.f rfl .n fun N => (O.mv rfl)
        | 6, h_ => cases h_; exact Ob.f rfl .n fun N => (O.ix i rfl rfl Try.underlying27 ty31 rfl (v := (y.getD i 0)) (gd 0 (by omega)))
        | 7, h_ => cases h_; exact Ob.f rfl .n fun N => (O.ldP rfl ty31)
        | 8, h_ => cases h_; exact Ob.f rfl .n fun N => (O.fn fn29 (evs.l rfl (kC_I _) (evs.l rfl (kC_I _) evs.nil)) (c_law22_eq (canon (x.getD i 0)) (canon (y.getD i 0))))
        | 9, h_ => cases h_; exact Ob.f rfl .n fun N => (O.not rfl)
        | n_ + 10, h_ => simp at h_
      refine WP.nil ?_
      refine QE.next ?_
      refine CW.cond rfl (fun h_t26 => ?_) (fun h_t26 => ?_)
      · refine CW.seq ?_
        refine CW.region ?_
        refine WP.s .n (O.asg rfl) ?_
        refine WP.nil ?_
        refine QE.next ?_
        refine CW.ret ?_
        refine QE.blkR ?_
        refine QE.thenR ?_
        refine QE.thenR ?_
        refine QE.blkR ?_
        refine QE.thenR ?_
        refine ST.told 4 rfl (is_eq (y := (decide (x = y))) (by rw [eq_comm, decide_eq_false_iff_not]; intro e; exact canon_ned h_t26 (by rw [e]))) ?_
        exact QE.done (.inl rfl) rfl (ResOk.t rfl ResOk.nil) (OImp.sub (List.nil_sublist _)) ⟨rfl, rfl⟩
      · refine CW.skip ?_
        refine QE.blkN ?_
        refine QE.next ?_
        refine CW.region ?_
        refine WP.s .n (O.mv rfl) ?_
        refine WP.s .n (O.add rfl rfl (c := ((i : Int) + 1)) (w64 (by omega))) ?_
        refine WP.s .n (O.asg rfl) ?_
        refine WP.nil ?_
        exact QE.round (i + 1) (by omega) ⟨by omega, eq_take (d := 0) (by omega) (by omega) ht (canon_eqd h_t26)⟩ (Imp.cons rfl (Imp.cons rfl (Imp.consLe rfl (is_eq (y := (((i + 1) : Nat) : Int)) (by omega)) Imp.nil))) (OImp.refl _)
    · refine CW.exit ?_
      refine QE.thenE ?_
      refine QE.thenE ?_
      refine QE.blkH ?_
      refine QE.next ?_
      refine CW.seq ?_
      refine CW.region ?_
      refine WP.s .n (O.asg rfl) ?_
      refine WP.nil ?_
      refine QE.next ?_
      refine CW.ret ?_
      refine ST.told 4 rfl (is_eq (y := (decide (x = y))) (by rw [eq_comm, decide_eq_true_iff]; exact eq_full (i := i) (by omega) (by omega) ht)) ?_
      exact QE.done (.inl rfl) rfl (ResOk.t rfl ResOk.nil) (OImp.sub (List.nil_sublist _)) ⟨rfl, rfl⟩

set_option maxRecDepth 20000 in
set_option maxHeartbeats 1000000 in
theorem c_law22_eqm (x y : List (List Int)) : Fn Try.prog 59 [(kSl (kSl kC)).is x, (kSl (kSl kC)).is y] (kBool.is (decide (x = y))) := by
  refine Con.enter Try.func59 rfl rfl fun m w => ?_
  refine ST.fact (i := 0) rfl sl_len fun hB => ?_
  refine CW.seq ?_
  refine CW.region ?_
  refine WP.s .n (O.asg rfl) ?_
  refine WP.nil ?_
  refine QE.next ?_
  refine CW.seq ?_
  refine CW.seq ?_
  refine CW.region ?_
  refine WP.s .n (O.mv rfl) ?_
  refine WP.s .n (O.lenS rfl Try.underlying67) ?_
  refine WP.s .n (O.mv rfl) ?_
  refine WP.s .n (O.lenS rfl Try.underlying67) ?_
  refine WP.s .n (O.ne rfl rfl) ?_
  refine WP.nil ?_
  refine QE.next ?_
  refine CW.condD rfl (fun h_t10 => ?_) (fun h_t10 => ?_)
  · refine CW.seq ?_
    refine CW.region ?_
    refine WP.s .n (O.asg rfl) ?_
    refine WP.nil ?_
    refine QE.next ?_
    refine CW.ret ?_
    refine QE.thenR ?_
    refine ST.told 4 rfl (is_eq (y := (decide (x = y))) (by rw [eq_comm, decide_eq_false_iff_not]; intro e; exact h_t10 (by rw [e]))) ?_
    exact QE.done (.inl rfl) rfl (ResOk.t rfl ResOk.nil) (OImp.sub (List.nil_sublist _)) ⟨rfl, rfl⟩
  · refine CW.skip ?_
    refine QE.next ?_
    refine CW.seq ?_
    refine CW.seq ?_
    refine CW.region ?_
    refine WP.s .n (O.asg rfl) ?_
    refine WP.nil ?_
    refine QE.next ?_
    refine CW.block ?_
    refine CW.loop (fun (i : Nat) => i ≤ x.length ∧ x.take i = y.take i) (fun (i : Nat) => [(0, (kSl (kSl kC)).is x), (1, (kSl (kSl kC)).is y), (5, (kInt .i64).is (i : Int))]) (fun (i : Nat) => []) (fun (i : Nat) => x.length - i) 0 ⟨Nat.zero_le _, rfl⟩ (Imp.cons rfl (Imp.cons rfl (Imp.consLe rfl (is_eq (y := (0 : Int)) (by omega)) Imp.nil))) (OImp.refl _) ?_
    intro i ⟨hi, ht⟩
    refine CW.seq ?_
    refine CW.seq ?_
    refine CW.region ?_
    refine WP.s .n (O.mv rfl) ?_
    refine WP.s .n (O.mv rfl) ?_
    refine WP.s .n (O.lenS rfl Try.underlying67) ?_
    refine WP.s .n (O.lt rfl rfl) ?_
    refine WP.nil ?_
    refine QE.next ?_
    refine CW.condD rfl (fun h_t14 => ?_) (fun h_t14 => ?_)
    · refine CW.skip ?_
      refine QE.next ?_
      refine CW.seq ?_
      refine CW.block ?_
      refine CW.seq ?_
      refine CW.draw (Γ := [.fr ((kSl (kSl kC)).is x), .fr ((kInt .i64).is (i : Int)), .fr (VP.pim (kSl kC) (x.getD i [])), .fr ((kSl kC).is (x.getD i [])), .fr ((kSl (kSl kC)).is y), .fr ((kInt .i64).is (i : Int)), .fr (VP.pim (kSl kC) (y.getD i [])), .fr ((kSl kC).is (y.getD i [])), .fr (kBool.is (decide ((x.getD i []) = (y.getD i [])))), .fr (kBool.is (!(decide ((x.getD i []) = (y.getD i [])))))]) (lates := [false, false, false, false, false, false, false, false, false, false]) (by kernel_rfl) (Chk.of rfl (by kernel_rfl) rfl) (fun _ _ _ _ _ h => h) (fun q_ x_ h_ => ?_) (fun σ1 => ?_)
      · match q_, h_ with
        | 0, h_ => cases h_; exact Ob.f rfl .n fun N => (O.mv rfl)
        | 1, h_ => cases h_; exact Ob.f rfl .n fun N => (O.mv rfl)
        | 2, h_ => cases h_; exact Ob.f rfl .n fun N => (O.ix i rfl rfl Try.underlying67 ty27 rfl (v := (x.getD i [])) (gd [] (by omega)))
        | 3, h_ => cases h_; exact Ob.f rfl .n fun N => (O.ldP rfl ty27)
        | 4, h_ => cases h_; exact Ob.f rfl .n fun N => (O.mv rfl)
        | 5, h_ => cases h_; exact Ob.f rfl .n fun N => (O.mv rfl)
        | 6, h_ => cases h_; exact Ob.f rfl .n fun N => (O.ix i rfl rfl Try.underlying67 ty27 rfl (v := (y.getD i [])) (gd [] (by omega)))
        | 7, h_ => cases h_; exact Ob.f rfl .n fun N => (O.ldP rfl ty27)
        | 8, h_ => cases h_; exact Ob.f rfl .n fun N => (O.fn fn58 (evs.c rfl (evs.c rfl evs.nil)) (c_law22_eqs (x.getD i []) (y.getD i [])))
        | 9, h_ => cases h_; exact Ob.f rfl .n fun N => (O.not rfl)
        | n_ + 10, h_ => simp at h_
      refine WP.nil ?_
      refine QE.next ?_
      refine CW.cond rfl (fun h_t26 => ?_) (fun h_t26 => ?_)
      · refine CW.seq ?_
        refine CW.region ?_
        refine WP.s .n (O.asg rfl) ?_
        refine WP.nil ?_
        refine QE.next ?_
        refine CW.ret ?_
        refine QE.blkR ?_
        refine QE.thenR ?_
        refine QE.thenR ?_
        refine QE.blkR ?_
        refine QE.thenR ?_
        refine ST.told 4 rfl (is_eq (y := (decide (x = y))) (by rw [eq_comm, decide_eq_false_iff_not]; intro e; simp [e] at h_t26)) ?_
        exact QE.done (.inl rfl) rfl (ResOk.t rfl ResOk.nil) (OImp.sub (List.nil_sublist _)) ⟨rfl, rfl⟩
      · refine CW.skip ?_
        refine QE.blkN ?_
        refine QE.next ?_
        refine CW.region ?_
        refine WP.s .n (O.mv rfl) ?_
        refine WP.s .n (O.add rfl rfl (c := ((i : Int) + 1)) (w64 (by omega))) ?_
        refine WP.s .n (O.asg rfl) ?_
        refine WP.nil ?_
        exact QE.round (i + 1) (by omega) ⟨by omega, eq_take (d := []) (by omega) (by omega) ht (by simpa using h_t26)⟩ (Imp.cons rfl (Imp.cons rfl (Imp.consLe rfl (is_eq (y := (((i + 1) : Nat) : Int)) (by omega)) Imp.nil))) (OImp.refl _)
    · refine CW.exit ?_
      refine QE.thenE ?_
      refine QE.thenE ?_
      refine QE.blkH ?_
      refine QE.next ?_
      refine CW.seq ?_
      refine CW.region ?_
      refine WP.s .n (O.asg rfl) ?_
      refine WP.nil ?_
      refine QE.next ?_
      refine CW.ret ?_
      refine ST.told 4 rfl (is_eq (y := (decide (x = y))) (by rw [eq_comm, decide_eq_true_iff]; exact eq_full (i := i) (by omega) (by omega) ht)) ?_
      exact QE.done (.inl rfl) rfl (ResOk.t rfl ResOk.nil) (OImp.sub (List.nil_sublist _)) ⟨rfl, rfl⟩

set_option maxRecDepth 20000 in
set_option maxHeartbeats 1000000 in
theorem c_quad_product (n : Nat) (a : List (List Int)) (x y : List Int) (ha : SzM 256 a) (hx : SzL n x) (hy : SzL n y) (hok : combOk x a) (hl : a.length ≤ 12) (hyl : y.length = (a.getD 0 []).length) (hc : y.length ≤ 12) (hn : n ≤ 4294967296) : Fn Try.prog 114 [(kSl (kSl kZ)).is a, (kSl kZ).is x, (kSl kZ).is y] (kC.is (dotV (combV x a) y)) := by
  refine Con.enter Try.func114 rfl rfl fun m w => ?_
  refine CW.seq ?_
  refine CW.region ?_
  refine WP.al .n z31_C fun b1 => ?_
  refine WP.nil ?_
  refine QE.next ?_
  refine CW.seq ?_
  refine CW.region ?_
  refine WP.s .n (O.mv rfl) ?_
  refine WP.s .n (O.mv rfl) ?_
  refine WP.s .n (O.fn fn69 (evs.c rfl (evs.c rfl evs.nil)) (c_mat_Combine (n + 256) x a (hx.up (by omega)) (ha.up (by omega)) (by omega))) ?_
  refine WP.s .n (O.mv rfl) ?_
  refine WP.s .n (O.ext rfl rfl) ?_
  refine WP.s .n (O.ext rfl rfl) ?_
  refine WP.s .n (O.asg rfl) ?_
  refine WP.s .n (O.asg rfl) ?_
  refine WP.nil ?_
  refine QE.next ?_
  refine CW.seq ?_
  refine ST.told 7 rfl (is_eq (y := (combV x a)) (comb_yes hok).1.symm) ?_
  have hC : SzL (n + 512) (combV x a) := (combV_Sz hx ha).up (by omega)
  have hll : (combV x a).length = y.length := by rw [combV_len, hyl]
  refine CW.region ?_
  refine WP.s .n (O.mv rfl) ?_
  refine WP.s .n (O.mv rfl) ?_
  refine WP.s .n (O.fn fn175 (evs.l rfl (slC_Z (by exact hC.sm (by omega))) (evs.c rfl evs.nil)) (c_mat_Dot (n + 512) (combV x a) y hC (hy.up (by omega)) (by rw [combV_len]; omega))) ?_
  refine ST.told (q := VP.tup [kC.is (dotV (combV x a) y), (kInt .i64).is 0]) 20 rfl (tup_le (tup_cons (is_eq (if_pos hll)) (tup_cons (is_eq (if_pos hll)) tup_nil))) ?_
  refine WP.s .n (O.mv rfl) ?_
  refine WP.s .n (O.ext rfl rfl) ?_
  refine WP.s .n (O.ext rfl rfl) ?_
  refine WP.al .n z31_C fun b2 => ?_
  refine WP.t .n (O.stW (l := kC) (u := dotV (combV x a) y) 0 rfl rfl rfl ty31 rfl (VP.le_refl _)) ?_
  refine WP.s .n (O.asg rfl) ?_
  refine WP.nil ?_
  refine QE.next ?_
  refine CW.seq ?_
  refine CW.region ?_
  refine WP.s .n (O.ld rfl (mem_at 0 rfl) (Lens.id _) ty31 rfl) ?_
  refine WP.t .n (O.stW (l := kC) (u := dotV (combV x a) y) 1 rfl rfl rfl ty31 rfl (VP.le_refl _)) ?_
  refine WP.nil ?_
  refine QE.next ?_
  refine CW.ret ?_
  exact QE.done (.inl rfl) rfl (ResOk.c rfl (mem_at 1 rfl) ty31 ResOk.nil) (OImp.sub (List.nil_sublist _)) ⟨rfl, rfl⟩

set_option maxRecDepth 20000 in
set_option maxHeartbeats 1000000 in
theorem c_quad_Value (n : Nat) (a : List (List Int)) (x : List Int) (hx : SzL n x) (hn : n ≤ 4294967296) : Fn Try.prog 53 [(kSl (kSl kZ)).is a, (kSl kZ).is x] (VP.tup [kC.is (qvalV a x), (kInt .i64).is (qvalE a x)]) := by
  refine Con.enter Try.func53 rfl rfl fun m w => ?_
  refine CW.seq ?_
  refine CW.region ?_
  refine WP.al .n z31_C fun b1 => ?_
  refine WP.s .n (O.asg rfl) ?_
  refine WP.nil ?_
  refine QE.next ?_
  refine CW.seq ?_
  refine CW.seq ?_
  refine CW.region ?_
  refine WP.s .n (O.mv rfl) ?_
  refine WP.s .n (O.fn fn51 (evs.c rfl evs.nil) (c_quad_Valid a)) ?_
  refine WP.s .n (O.asg rfl) ?_
  refine WP.nil ?_
  refine QE.next ?_
  refine CW.seq ?_
  refine CW.region ?_
  refine WP.s .n (O.mv rfl) ?_
  refine WP.s .n (O.ne rfl rfl) ?_
  refine WP.nil ?_
  refine QE.next ?_
  refine CW.condD rfl (fun h_t10 => ?_) (fun h_t10 => ?_)
  · refine CW.seq ?_
    refine CW.region ?_
    refine WP.s .n (O.bld lit31_C rfl evp.n (.nil _)) ?_
    refine WP.s .n (O.mv rfl) ?_
    refine WP.t .n (O.stW (l := kC) (u := 0) 0 rfl rfl rfl ty31 rfl (VP.le_refl _)) ?_
    refine WP.s .n (O.asg rfl) ?_
    refine WP.nil ?_
    refine QE.next ?_
    refine CW.ret ?_
    refine QE.thenR ?_
    refine ST.obtold 0 rfl (OB.box_eq (y := (qvalV a x)) (qv_1 h_t10).1.symm) ?_
    refine ST.told 5 rfl (is_eq (y := (qvalE a x)) (qv_1 h_t10).2.symm) ?_
    exact QE.done (.inl rfl) rfl (ResOk.c rfl (mem_at 0 rfl) ty31 (ResOk.t rfl ResOk.nil)) (OImp.sub (List.nil_sublist _)) ⟨rfl, rfl⟩
  · refine CW.skip ?_
    refine QE.next ?_
    refine CW.seq ?_
    refine CW.seq ?_
    refine CW.region ?_
    refine WP.s .n (O.mv rfl) ?_
    refine WP.s .n (O.lenS rfl Try.underlying27) ?_
    refine WP.s .n (O.mv rfl) ?_
    refine WP.s .n (O.lenS rfl Try.underlying67) ?_
    refine WP.s .n (O.ne rfl rfl) ?_
    refine WP.nil ?_
    refine QE.next ?_
    refine CW.condD rfl (fun h_t17 => ?_) (fun h_t17 => ?_)
    · refine CW.seq ?_
      refine CW.region ?_
      refine WP.s .n (O.bld lit31_C rfl evp.n (.nil _)) ?_
      refine WP.t .n (O.stW (l := kC) (u := 0) 0 rfl rfl rfl ty31 rfl (VP.le_refl _)) ?_
      refine WP.s .n (O.asg rfl) ?_
      refine WP.nil ?_
      refine QE.next ?_
      refine CW.ret ?_
      refine QE.thenR ?_
      refine ST.obtold 0 rfl (OB.box_eq (y := (qvalV a x)) (qv_2 h_t10 (by omega)).1.symm) ?_
      refine ST.told 5 rfl (is_eq (y := (qvalE a x)) (qv_2 h_t10 (by omega)).2.symm) ?_
      exact QE.done (.inl rfl) rfl (ResOk.c rfl (mem_at 0 rfl) ty31 (ResOk.t rfl ResOk.nil)) (OImp.sub (List.nil_sublist _)) ⟨rfl, rfl⟩
    · refine CW.skip ?_
      refine QE.next ?_
      refine CW.seq ?_
      have hM := (quad_ok (a := a) (by omega)).1
      refine CW.region ?_
      refine WP.s .n (O.mv rfl) ?_
      refine WP.s .n (O.mv rfl) ?_
      refine WP.s .n (O.mv rfl) ?_
      refine WP.s .n (O.fn fn114 (evs.c rfl (evs.c rfl (evs.c rfl evs.nil))) (c_quad_product n a x x (by first | assumption | exact hM.z | exact hM.n | exact ⟨sqm_rb hM, by omega⟩ | (rw [hM.q 0 hM.n0]; omega) | (have := hM.n; omega)) (by first | assumption | exact hM.z | exact hM.n | exact ⟨sqm_rb hM, by omega⟩ | (rw [hM.q 0 hM.n0]; omega) | (have := hM.n; omega)) (by first | assumption | exact hM.z | exact hM.n | exact ⟨sqm_rb hM, by omega⟩ | (rw [hM.q 0 hM.n0]; omega) | (have := hM.n; omega)) (by first | assumption | exact hM.z | exact hM.n | exact ⟨sqm_rb hM, by omega⟩ | (rw [hM.q 0 hM.n0]; omega) | (have := hM.n; omega)) (by first | assumption | exact hM.z | exact hM.n | exact ⟨sqm_rb hM, by omega⟩ | (rw [hM.q 0 hM.n0]; omega) | (have := hM.n; omega)) (by first | assumption | exact hM.z | exact hM.n | exact ⟨sqm_rb hM, by omega⟩ | (rw [hM.q 0 hM.n0]; omega) | (have := hM.n; omega)) (by first | assumption | exact hM.z | exact hM.n | exact ⟨sqm_rb hM, by omega⟩ | (rw [hM.q 0 hM.n0]; omega) | (have := hM.n; omega)) (by first | assumption | exact hM.z | exact hM.n | exact ⟨sqm_rb hM, by omega⟩ | (rw [hM.q 0 hM.n0]; omega) | (have := hM.n; omega)))) ?_
      refine WP.t .n (O.stW (l := kC) (u := dotV (combV x a) x) 0 rfl rfl rfl ty31 rfl (VP.le_refl _)) ?_
      refine WP.s .n (O.asg rfl) ?_
      refine WP.nil ?_
      refine QE.next ?_
      refine CW.ret ?_
      refine ST.obtold 0 rfl (OB.box_eq (y := (qvalV a x)) (qv_3 h_t10 (by omega)).1.symm) ?_
      refine ST.told 5 rfl (is_eq (y := (qvalE a x)) (qv_3 h_t10 (by omega)).2.symm) ?_
      exact QE.done (.inl rfl) rfl (ResOk.c rfl (mem_at 0 rfl) ty31 (ResOk.t rfl ResOk.nil)) (OImp.sub (List.nil_sublist _)) ⟨rfl, rfl⟩

set_option maxRecDepth 20000 in
set_option maxHeartbeats 1000000 in
theorem c_quad_Data (a : List (List Int)) : Fn Try.prog 55 [(kSl (kSl kZ)).is a] (VP.tup [(kPair (kSl kC) (kSl (kSl kC))).is (quadR a), (kInt .i64).is (quadE a)]) := by
  refine Con.enter Try.func55 rfl rfl fun m w => ?_
  refine CW.seq ?_
  refine CW.region ?_
  refine WP.al .n z93_pr_sl_C_sl_sl_C_ fun b1 => ?_
  refine WP.s .n (O.asg rfl) ?_
  refine WP.nil ?_
  refine QE.next ?_
  refine CW.seq ?_
  refine CW.seq ?_
  refine CW.region ?_
  refine WP.s .n (O.mv rfl) ?_
  refine WP.s .n (O.fn fn51 (evs.c rfl evs.nil) (c_quad_Valid a)) ?_
  refine WP.s .n (O.asg rfl) ?_
  refine WP.nil ?_
  refine QE.next ?_
  refine CW.seq ?_
  refine CW.region ?_
  refine WP.s .n (O.mv rfl) ?_
  refine WP.s .n (O.ne rfl rfl) ?_
  refine WP.nil ?_
  refine QE.next ?_
  refine CW.condD rfl (fun h_t10 => ?_) (fun h_t10 => ?_)
  · refine CW.seq ?_
    refine CW.region ?_
    refine WP.s .n (O.bld lit93_pr_sl_C_sl_sl_C_ rfl evp.n (.nil _)) ?_
    refine WP.s .n (O.mv rfl) ?_
    refine WP.t .n (O.stW (l := (kPair (kSl kC) (kSl (kSl kC)))) (u := ([], [])) 0 rfl rfl rfl ty93 rfl (VP.le_refl _)) ?_
    refine WP.s .n (O.asg rfl) ?_
    refine WP.nil ?_
    refine QE.next ?_
    refine CW.ret ?_
    refine QE.thenR ?_
    refine ST.obtold 0 rfl (OB.box_eq (y := (quadR a)) (quadR_1 h_t10)) ?_
    refine ST.told 3 rfl (is_eq (y := (quadE a)) (by omega)) ?_
    exact QE.done (.inl rfl) rfl (ResOk.c rfl (mem_at 0 rfl) ty93 (ResOk.t rfl ResOk.nil)) (OImp.sub (List.nil_sublist _)) ⟨rfl, rfl⟩
  · refine CW.skip ?_
    refine QE.next ?_
    refine CW.seq ?_
    have hM := (quad_ok (a := a) (by omega)).1
    refine CW.region ?_
    refine WP.s .n (O.mv rfl) ?_
    refine WP.s .n (O.fn fn113 (evs.c rfl evs.nil) (c_quad_data 256 a (by first | exact hM.z | exact hM.q | exact hM.s | exact hM.n | decide) (by first | exact hM.z | exact hM.q | exact hM.s | exact hM.n | decide) (by first | exact hM.z | exact hM.q | exact hM.s | exact hM.n | decide) (by first | exact hM.z | exact hM.q | exact hM.s | exact hM.n | decide) (by first | exact hM.z | exact hM.q | exact hM.s | exact hM.n | decide))) ?_
    refine WP.s .n (O.mv rfl) ?_
    refine WP.s .n (O.ext rfl rfl) ?_
    refine WP.s .n (O.ext rfl rfl) ?_
    refine WP.al .n z93_pr_sl_C_sl_sl_C_ fun b2 => ?_
    refine WP.t .n (O.stW (l := (kPair (kSl kC) (kSl (kSl kC)))) (u := gsoV (matF a) a.length) 0 rfl rfl rfl ty93 rfl (VP.le_refl _)) ?_
    refine WP.s .n (O.asg rfl) ?_
    refine WP.nil ?_
    refine QE.next ?_
    refine CW.seq ?_
    refine CW.region ?_
    refine WP.s .n (O.ld rfl (mem_at 0 rfl) (Lens.id _) ty93 rfl) ?_
    refine WP.t .n (O.stW (l := (kPair (kSl kC) (kSl (kSl kC)))) (u := gsoV (matF a) a.length) 1 rfl rfl rfl ty93 rfl (VP.le_refl _)) ?_
    refine WP.s .n (O.asg rfl) ?_
    refine WP.nil ?_
    refine QE.next ?_
    refine CW.ret ?_
    refine ST.obtold 1 rfl (OB.box_eq (y := (quadR a)) (quadR_ok (by omega))) ?_
    refine ST.told 3 rfl (is_eq (y := (quadE a)) (by omega)) ?_
    exact QE.done (.inl rfl) rfl (ResOk.c rfl (mem_at 1 rfl) ty93 (ResOk.t rfl ResOk.nil)) (OImp.sub (List.nil_sublist _)) ⟨rfl, rfl⟩

end Fw


/- Plain facts: the document's elimination by fractions. -/
set_option linter.unusedVariables false
set_option linter.unusedSimpArgs false
set_option exponentiation.threshold 400
namespace Fw
open Go

abbrev Fq := Nat → Nat → Rat
/-- a matrix of fractions as lists -/
def tabR (r n : Nat) (f : Fq) : List (List (Int × Int)) := (List.range r).map (fun i => (List.range n).map (fun k => rq (f i k)))
theorem tabR_len (r n f) : (tabR r n f).length = r := by simp [tabR]
theorem tabR_row {r n f i} (h : i < r) : (tabR r n f).getD i [] = (List.range n).map (fun k => rq (f i k)) := by
  rw [gde _ [] (by rw [tabR_len]; exact h)]; simp [tabR]
theorem tabR_rlen {r n f i} (h : i < r) : ((tabR r n f).getD i []).length = n := by rw [tabR_row h]; simp
theorem tabR_at {r n f i k} (h : i < r) (hk : k < n) : ((tabR r n f).getD i [])[k]? = some (rq (f i k)) := by rw [tabR_row h]; simp [hk]
theorem tabR_at2 {r n f i k} (q : Rat) (h : i < r) (hk : k < n) (e : f i k = q) : ((tabR r n f).getD i [])[k]? = some (rq q) := by rw [← e]; exact tabR_at h hk
theorem tabR_congr {r n} {f g : Fq} (h : ∀ i k, i < r → k < n → f i k = g i k) : tabR r n f = tabR r n g :=
  List.map_congr_left fun i hi => List.map_congr_left fun k hk => by rw [h i k (List.mem_range.1 hi) (List.mem_range.1 hk)]
def updF (f : Fq) (i k : Nat) (q : Rat) : Fq := fun a b => if a = i ∧ b = k then q else f a b
theorem tabR_set {r n f i k} (q : Rat) (h : i < r) (hk : k < n) : (tabR r n f).set i (((tabR r n f).getD i []).set k (rq q)) = tabR r n (updF f i k q) := by
  apply List.ext_getElem
  · simp [tabR]
  · intro a h1 h2
    rw [List.getElem_set]
    split
    · rename_i e
      subst e
      rw [tabR_row h]
      apply List.ext_getElem
      · simp [tabR]
      · intro b h3 h4
        simp only [tabR, List.getElem_map, List.getElem_range, List.getElem_set, updF]
        by_cases e : k = b
        · subst e; rw [if_pos rfl, if_pos ⟨trivial, rfl⟩]
        · rw [if_neg e, if_neg (fun x => e x.2.symm)]
    · rename_i e
      simp only [tabR, List.getElem_map, List.getElem_range, updF]
      apply List.map_congr_left
      intro b hb
      rw [if_neg (fun x => e x.1.symm)]
def swapF (f : Fq) (p q : Nat) : Fq := fun a b => if a = p then f q b else if a = q then f p b else f a b
theorem swapF_self (f : Fq) (p : Nat) : swapF f p p = f := by
  funext a b; unfold swapF; by_cases e : a = p
  · subst e; simp
  · simp [e]
theorem tabR_swap {r n f p q} (hp : p < r) (hq : q < r) (hpq : p ≠ q) : ((tabR r n f).set p ((tabR r n f).getD q [])).set q ((tabR r n f).getD p []) = tabR r n (swapF f p q) := by
  rw [tabR_row hp, tabR_row hq]
  apply List.ext_getElem
  · simp [tabR]
  · intro a h1 h2
    rw [List.getElem_set]
    by_cases e : q = a
    · subst e
      rw [if_pos rfl]
      simp only [tabR, List.getElem_map, List.getElem_range, swapF]
      simp [Ne.symm hpq]
    · rw [if_neg e, List.getElem_set]
      by_cases e2 : p = a
      · subst e2
        rw [if_pos rfl]
        simp [tabR, swapF]
      · rw [if_neg e2]
        simp only [tabR, List.getElem_map, List.getElem_range, swapF]
        have n1 : ¬ a = p := fun x => e2 x.symm
        have n2 : ¬ a = q := fun x => e x.symm
        simp [n1, n2]
/-- row top divided, as far as column c0 -/
def divF (f : Fq) (top : Nat) (h : Rat) (c0 : Nat) : Fq := fun a b => if a = top ∧ b < c0 then f a b / h else f a b
theorem divF_0 (f top h) : divF f top h 0 = f := by funext a b; simp [divF]
theorem divF_at {f top h c0} : divF f top h c0 top c0 = f top c0 := by simp [divF]
theorem divF_upd (f : Fq) (top : Nat) (h : Rat) (c0 : Nat) : updF (divF f top h c0) top c0 (f top c0 / h) = divF f top h (c0 + 1) := by
  funext a b
  unfold updF divF
  by_cases e : a = top
  · subst e
    by_cases e2 : b = c0
    · subst e2; simp
    · simp only [e2, and_false, if_false, true_and]
      by_cases e3 : b < c0
      · rw [if_pos e3, if_pos (by omega)]
      · rw [if_neg e3, if_neg (by omega)]
  · simp [e]
def divA (f : Fq) (top : Nat) (h : Rat) : Fq := fun a b => if a = top then f a b / h else f a b
theorem tabR_div {r n f top h} : tabR r n (divF f top h n) = tabR r n (divA f top h) := tabR_congr fun i k hi hk => by
  unfold divF divA
  by_cases e : i = top
  · rw [if_pos ⟨e, hk⟩, if_pos e]
  · rw [if_neg (fun x => e x.1), if_neg e]
/-- row i without q times row k, as far as column c0 -/
def loseF (f : Fq) (i k : Nat) (q : Rat) (c0 : Nat) : Fq := fun a b => if a = i ∧ b < c0 then f a b - q * f k b else f a b
theorem loseF_0 (f i k q) : loseF f i k q 0 = f := by funext a b; simp [loseF]
theorem loseF_at {f i k q c0} : loseF f i k q c0 i c0 = f i c0 := by simp [loseF]
theorem loseF_k {f i k q c0 b} (h : i ≠ k) : loseF f i k q c0 k b = f k b := by unfold loseF; rw [if_neg (fun x => h x.1.symm)]
theorem loseF_upd (f : Fq) (i k : Nat) (q : Rat) (c0 : Nat) : updF (loseF f i k q c0) i c0 (f i c0 - q * f k c0) = loseF f i k q (c0 + 1) := by
  funext a b
  unfold updF loseF
  by_cases e : a = i
  · subst e
    by_cases e2 : b = c0
    · subst e2; simp
    · simp only [e2, and_false, if_false, true_and]
      by_cases e3 : b < c0
      · rw [if_pos e3, if_pos (by omega)]
      · rw [if_neg e3, if_neg (by omega)]
  · simp [e]
/-- all rows ahead of i0 but row top are rid of column c -/
def elimF (f : Fq) (top c i0 : Nat) : Fq := fun a b => if a < i0 ∧ a ≠ top then f a b - f a c * f top b else f a b
theorem elimF_0 (f top c) : elimF f top c 0 = f := by funext a b; simp [elimF]
theorem elimF_i {f : Fq} {top c i0 b} : elimF f top c i0 i0 b = f i0 b := by simp [elimF]
theorem elimF_top {f : Fq} {top c i0 b} : elimF f top c i0 top b = f top b := by simp [elimF]
theorem elimF_skip {f : Fq} {top c i0} (h : i0 = top ∨ f i0 c = 0) : elimF f top c i0 = elimF f top c (i0 + 1) := by
  funext a b
  unfold elimF
  by_cases e : a = i0
  · subst e
    rw [if_neg (fun x => absurd x.1 (Nat.lt_irrefl _))]
    by_cases e2 : a = top
    · rw [if_neg (fun x => x.2 e2)]
    · rw [if_pos ⟨by omega, e2⟩]
      rcases h with h | h
      · exact absurd h e2
      · rw [h]; grind
  · by_cases e3 : a < i0 ∧ a ≠ top
    · rw [if_pos e3, if_pos ⟨by omega, e3.2⟩]
    · rw [if_neg e3, if_neg (fun x => e3 ⟨by omega, x.2⟩)]
theorem elimF_lose {r n : Nat} {f : Fq} {top c i0} (h : i0 ≠ top) : tabR r n (loseF (elimF f top c i0) i0 top (elimF f top c i0 i0 c) n) = tabR r n (elimF f top c (i0 + 1)) := tabR_congr fun a b ha hb => by
  unfold loseF
  rw [elimF_i, elimF_top]
  by_cases e : a = i0
  · subst e
    rw [if_pos ⟨rfl, hb⟩, elimF_i]
    unfold elimF
    rw [if_pos ⟨by omega, h⟩]
  · rw [if_neg (fun x => e x.1)]
    unfold elimF
    by_cases e3 : a < i0 ∧ a ≠ top
    · rw [if_pos e3, if_pos ⟨by omega, e3.2⟩]
    · rw [if_neg e3, if_neg (fun x => e3 ⟨by omega, x.2⟩)]
theorem elimF_lose2 {r n : Nat} {f : Fq} {top c i0} (h : i0 ≠ top) : tabR r n (loseF (elimF f top c i0) i0 top (f i0 c) n) = tabR r n (elimF f top c (i0 + 1)) := by
  rw [← elimF_lose h, elimF_i]
def dvF (f : Fq) (p top c : Nat) : Fq := divA (swapF f p top) top (f p c)
def rdcF (f : Fq) (p top c n : Nat) : Fq := elimF (divA (swapF f p top) top (f p c)) top c n
def sgD (d : Rat) (p top : Nat) : Rat := if p = top then d else -d
theorem swapF_top {f : Fq} {p top b} : swapF f p top top b = f p b := by
  unfold swapF; by_cases e : top = p
  · rw [if_pos e, e]
  · rw [if_neg e, if_pos rfl]

/-! sizes -/
theorem RZ.add {n p q} (h : RZ n p) (k : RZ n q) : RZ (n + n + 1) (p + q) :=
  RZ.of (Int.mul_ne_zero (rq_den_ne p) (rq_den_ne q)) (rq_add p q) (Sz.add1 (h.a.mul k.b) (k.a.mul h.b)) ((h.b.mul k.b).up (by omega))
theorem RZ.sub2 {n m p q} (h : RZ n p) (k : RZ m q) : RZ (n + m + 1) (p - q) := by
  rw [Rat.sub_eq_add_neg]
  refine RZ.of (Int.mul_ne_zero (rq_den_ne p) (rq_den_ne (-q))) (rq_add p (-q)) (Sz.add1 (h.a.mul k.neg.b) ?_) ((h.b.mul k.neg.b).up (by omega))
  have := k.neg.a.mul h.b
  exact this.up (by omega)
theorem RZ.div {n m p q} (h : RZ n p) (k : RZ m q) (h0 : q ≠ 0) : RZ (n + m) (p / q) :=
  RZ.of (Int.mul_ne_zero (rq_den_ne p) (rq_num_ne h0)) (rq_div p h0) (h.a.mul k.b) (h.b.mul k.a)
theorem swapF_RZ {s : Nat} {f : Fq} (h : ∀ i k, RZ s (f i k)) (p q i k) : RZ s (swapF f p q i k) := by
  unfold swapF; split
  · exact h _ _
  · split <;> exact h _ _
theorem dvF_RZ {s : Nat} {f : Fq} (h : ∀ i k, RZ s (f i k)) {p top c : Nat} (h0 : f p c ≠ 0) (i k) : RZ (s + s) (dvF f p top c i k) := by
  unfold dvF divA; split
  · exact (swapF_RZ h p top i k).div (h p c) h0
  · exact (swapF_RZ h p top i k).up (by omega)
theorem dvF_RZ1 {s : Nat} {f : Fq} (h : ∀ i k, RZ s (f i k)) {p top c i : Nat} (hi : i ≠ top) (k) : RZ s (dvF f p top c i k) := by
  unfold dvF divA; rw [if_neg hi]; exact swapF_RZ h p top i k
/-- bits behind c columns -/
def szE (s : Nat) : Nat → Nat
  | 0 => s
  | c + 1 => 4 * szE s c + 1
theorem szE_eq (s) : ∀ c, 3 * szE s c + 1 = 4 ^ c * (3 * s + 1)
  | 0 => by simp [szE]
  | c + 1 => by rw [szE, Nat.pow_succ, Nat.mul_comm (4 ^ c) 4, Nat.mul_assoc, ← szE_eq s c]; omega
theorem szE_le {s c : Nat} (hc : c ≤ 12) (hs : s ≤ 257) : szE s c ≤ 4317512248 := by
  have h1 := szE_eq s c
  have h2 : 4 ^ c ≤ 4 ^ 12 := Nat.pow_le_pow_right (by decide) hc
  have h3 : 4 ^ c * (3 * s + 1) ≤ 4 ^ 12 * 772 := Nat.mul_le_mul h2 (by omega)
  omega
theorem szE_last {s c : Nat} (hc : c < 12) (hs : s ≤ 257) : 4 * szE s c + 1 ≤ 4317512248 := szE_le (c := c + 1) hc hs

/-- what is known of the elimination at column c -/
structure RedI (G : Nat → Nat → Int) (n s c top : Nat) (f : Fq) (d : Rat) : Prop where
  cn : c ≤ n
  tc : top ≤ c
  z : ∀ i k, RZ (szE s c) (f i k)
  zd : RZ (szE s c + 1) d
  gf : PosU G c → top = c ∧ ∀ i k, c ≤ i → i < n → c ≤ k → k < n → f i k = gsE (qG G) c i k
  gd : PosU G (min c (n - 1)) → d = gsD (qG G) c
theorem red_0 {G : Nat → Nat → Int} {n s : Nat} (hs : ∀ i j, Sz s (G i j)) (h1 : 1 ≤ s) : RedI G n s 0 0 (fun i k => (G i k : Rat)) 1 := by
  obtain ⟨s', rfl⟩ : ∃ s', s = s' + 1 := ⟨s - 1, by omega⟩
  refine ⟨Nat.zero_le _, Nat.le_refl _, fun i k => RZ.int (hs i k), ?_, fun _ => ⟨rfl, fun i k _ _ _ _ => rfl⟩, fun _ => rfl⟩
  have := RZ.int (n := s' + 1) (z := 1) (by show (1 : Int).natAbs < 2 ^ (s' + 1 + 1); simp)
  exact this
theorem red_none {G : Nat → Nat → Int} (hs : SymG G) {n s c top : Nat} {f : Fq} {d : Rat} (h : RedI G n s c top f d) (hc : c < n) (h0 : ∀ q, top ≤ q → q < n → f q c = 0) : RedI G n s (c + 1) top f 0 := by
  have key : PosU G c → gsE (qG G) c c c = 0 := fun hp => by
    obtain ⟨e1, e2⟩ := h.gf hp
    rw [← e2 c c (Nat.le_refl c) hc (Nat.le_refl c) hc]
    exact h0 c (by omega) hc
  refine ⟨hc, Nat.le_succ_of_le h.tc, fun i k => (h.z i k).up (by rw [szE]; omega), ?_, fun hp => ?_, fun hp => ?_⟩
  · have := RZ.int (n := szE s (c + 1)) (z := 0) (Sz.zero _)
    exact this
  · exact absurd (key (hp.le (by omega))) (frS_ne hs hp)
  · by_cases e : c + 1 < n
    · have hp' : PosU G (c + 1) := by rw [show min (c + 1) (n - 1) = c + 1 by omega] at hp; exact hp
      exact absurd (key (hp'.le (by omega))) (frS_ne hs hp')
    · have hp' : PosU G c := by rw [show min (c + 1) (n - 1) = c by omega] at hp; exact hp
      show 0 = gsD (qG G) c * gsE (qG G) c c c
      rw [key hp']; grind
theorem red_step {G : Nat → Nat → Int} (hs : SymG G) {n s c top p : Nat} {f : Fq} {d : Rat} (h : RedI G n s c top f d) (hc : c < n) (hp : top ≤ p) (hpn : p < n) (h1 : f p c ≠ 0) (h0 : ∀ q, top ≤ q → q < p → f q c = 0) : RedI G n s (c + 1) (top + 1) (rdcF f p top c n) (sgD d p top * f p c) := by
  have key : PosU G c → (c + 1 < n → PosU G (c + 1)) → p = c ∧ top = c := fun hP hP1 => by
    obtain ⟨e1, e2⟩ := h.gf hP
    refine ⟨?_, e1⟩
    by_cases e : p = c
    · exact e
    · have e3 := h0 c (by omega) (by omega)
      rw [e2 c c (Nat.le_refl c) hc (Nat.le_refl c) hc] at e3
      by_cases e4 : c + 1 < n
      · exact absurd e3 (frS_ne hs (hP1 e4))
      · omega
  have hz1 : ∀ i k, RZ (szE s c) (swapF f p top i k) := fun i k => by
    unfold swapF; split
    · exact h.z _ _
    · split <;> exact h.z _ _
  have hz2 : ∀ i k, RZ (szE s c + szE s c) (divA (swapF f p top) top (f p c) i k) := fun i k => by
    unfold divA; split
    · exact (hz1 i k).div (h.z p c) h1
    · exact (hz1 i k).up (by omega)
  have hz3 : ∀ i k, i ≠ top → RZ (szE s c) (divA (swapF f p top) top (f p c) i k) := fun i k hi => by
    unfold divA; rw [if_neg hi]; exact hz1 i k
  refine ⟨hc, Nat.succ_le_succ h.tc, fun i k => ?_, ?_, fun hP => ?_, fun hP => ?_⟩
  · unfold rdcF elimF
    split
    · rename_i e
      have h2 := (hz3 i c e.2).mul (hz2 top k)
      exact (RZ.sub2 (hz3 i k e.2) h2).up (by rw [szE]; omega)
    · exact (hz2 i k).up (by rw [szE]; omega)
  · have h2 : RZ (szE s c + 1) (sgD d p top) := by
      unfold sgD; split
      · exact h.zd
      · exact h.zd.neg
    exact (h2.mul (h.z p c)).up (by rw [szE]; omega)
  · obtain ⟨e1, e2⟩ := key (hP.le (by omega)) (fun _ => hP)
    obtain ⟨_, e3⟩ := h.gf (hP.le (by omega))
    rw [e1, e2]
    refine ⟨rfl, fun i k hi hin hk hkn => ?_⟩
    unfold rdcF elimF divA
    rw [swapF_self]
    rw [if_pos ⟨by omega, by omega⟩, if_neg (by omega), if_neg (by omega), if_pos rfl]
    rw [e3 i k (by omega) hin (by omega) hkn, e3 i c (by omega) hin (Nat.le_refl _) hc, e3 c k (Nat.le_refl _) hc (by omega) hkn, e3 c c (Nat.le_refl _) hc (Nat.le_refl _) hc]
    show _ = gsE (qG G) c i k - gsE (qG G) c i c * gsE (qG G) c c k / gsE (qG G) c c c
    have hne : gsE (qG G) c c c ≠ 0 := frS_ne hs hP
    grind
  · have hPc : PosU G c := hP.le (by omega)
    obtain ⟨e1, e2⟩ := key hPc (fun hlt => by rw [show min (c + 1) (n - 1) = c + 1 by omega] at hP; exact hP)
    have hd := h.gd (hPc.le (by omega))
    obtain ⟨_, e3⟩ := h.gf hPc
    rw [e1, e2]
    unfold sgD
    rw [if_pos rfl, hd, e3 c c (Nat.le_refl _) hc (Nat.le_refl _) hc]
    rfl
/-- the determinant, where the minors ahead are positive -/
theorem red_end {G : Nat → Nat → Int} (hs : SymG G) {n s top : Nat} {f : Fq} {d : Rat} (h : RedI G n s n top f d) (hn : 0 < n) (hp : PosU G (n - 1)) : d = (uD G n : Rat) := by
  obtain ⟨k, rfl⟩ : ∃ k, n = k + 1 := ⟨n - 1, by omega⟩
  have hp' : PosU G k := hp
  rw [h.gd (by rw [show min (k + 1) (k + 1 - 1) = k by omega]; exact hp')]
  show gsD (qG G) k * gsE (qG G) k k k = (uE G k k k : Rat)
  rw [← (ugs hs k hp').d, gsE_frac hs hp' (Nat.le_refl k) (Nat.le_refl k)]
  have h2 : uD G k ≠ 0 := by have := hp'.uD (Nat.le_refl k); omega
  have h3 := rat_ne h2
  grind
theorem rq_zero {q : Rat} : (rq q).1.sign = 0 ↔ q = 0 := by
  rw [Int.sign_eq_zero_iff_zero]
  constructor
  · intro h; exact Classical.byContradiction fun e => rq_num_ne e h
  · intro h; subst h; rfl

end Fw


/- Plain facts: turned matrices, minors. -/
set_option linter.unusedVariables false
set_option linter.unusedSimpArgs false
set_option exponentiation.threshold 400
namespace Fw
open Go

theorem take_app2 {α : Type} {l : List α} {k : Nat} {x : α} (h : l[k]? = some x) : l.take k ++ [x] = l.take (k + 1) := by
  obtain ⟨h1, rfl⟩ := List.getElem?_eq_some_iff.1 h
  rw [List.take_succ_eq_append_getElem h1]
abbrev qM (b : List (List Int)) : Fq := fun x y => (matF b x y : Rat)
def turnR (a : List (List Int)) (k : Nat) : List Int := (List.range a.length).map (fun i => matF a i k)
def turnV (a : List (List Int)) : List (List Int) := (List.range (a.getD 0 []).length).map (turnR a)
theorem turnR_len (a k) : (turnR a k).length = a.length := by simp [turnR]
theorem turnV_len (a) : (turnV a).length = (a.getD 0 []).length := by simp [turnV]
theorem range_app {α : Type} (F : Nat → α) (i : Nat) : (List.range i).map F ++ [F i] = (List.range (i + 1)).map F := by simp [List.range_succ]
theorem turn_sym {a : List (List Int)} (hq : ∀ i, i < a.length → (a.getD i []).length = a.length) (h0 : 0 < a.length) : a = turnV a ↔ symB a = true := by
  rw [symB_iff]
  have hl : (turnV a).length = a.length := by rw [turnV_len, hq 0 h0]
  have hrow : ∀ i, i < a.length → (turnV a).getD i [] = turnR a i := fun i hi => by
    rw [gde _ [] (by omega)]; simp [turnV]
  have hat : ∀ i k, i < a.length → k < a.length → (turnR a i).getD k 0 = matF a k i := fun i k hi hk => by
    rw [gde _ 0 (by rw [turnR_len]; omega)]; simp [turnR]
  constructor
  · intro e i hi k hk
    have e1 : matF a i k = ((turnV a).getD i []).getD k 0 := by rw [← e]; rfl
    rw [e1, hrow i hi, hat i k hi (by omega)]
  · intro h
    apply List.ext_getElem
    · omega
    · intro i h1 h2
      apply List.ext_getElem
      · have := hq i h1
        rw [gde _ [] h1] at this
        have h3 := hrow i h1
        rw [gde _ [] h2] at h3
        rw [h3, turnR_len, this]
      · intro k h3 h4
        have e1 : (a[i])[k] = matF a i k := by unfold matF; rw [gde _ [] h1, gde _ 0 h3]
        have h5 := hrow i h1
        rw [gde _ [] h2] at h5
        have hk : k < a.length := by rw [h5, turnR_len] at h4; exact h4
        have e2 : ((turnV a)[i])[k] = matF a k i := by rw [← hat i k h1 hk, ← h5, gde _ 0 h4]
        rw [e1, e2]
        rcases Nat.lt_trichotomy i k with h6 | h6 | h6
        · exact (h k hk i h6).symm
        · rw [h6]
        · exact h i h1 k h6
theorem turnV_Sz {n a} (h : SzM n a) : SzM n (turnV a) := by
  intro i k
  by_cases hi : i < (a.getD 0 []).length
  · have e : (turnV a).getD i [] = turnR a i := by rw [gde _ [] (by rw [turnV_len]; exact hi)]; simp [turnV]
    rw [e]
    by_cases hk : k < a.length
    · have e2 : (turnR a i).getD k 0 = matF a k i := by rw [gde _ 0 (by rw [turnR_len]; exact hk)]; simp [turnR]
      rw [e2]; exact h k i
    · rw [List.getD_eq_getElem?_getD, List.getElem?_eq_none (by rw [turnR_len]; omega)]; exact Sz.zero _
  · have e : (turnV a).getD i [] = [] := by rw [List.getD_eq_getElem?_getD, List.getElem?_eq_none (by rw [turnV_len]; omega)]; rfl
    rw [e]; exact Sz.zero _
/-- the first k rows and columns -/
def subM (a : List (List Int)) (k : Nat) : List (List Int) := (a.take k).map (fun r => r.take k)
theorem subM_app {a : List (List Int)} {k i : Nat} (h : i < a.length) : (a.take i).map (fun r => r.take k) ++ [(a.getD i []).take k] = (a.take (i + 1)).map (fun r => r.take k) := map_take_app (F := fun r : List Int => r.take k) h
theorem subM_len {a : List (List Int)} {k} (h : k ≤ a.length) : (subM a k).length = k := by simp [subM]; omega
theorem subM_get {a : List (List Int)} {k i} (h : k ≤ a.length) (hi : i < k) : (subM a k).getD i [] = (a.getD i []).take k := by
  unfold subM
  rw [getD_map _ _ [] [] (by simp; omega)]
  congr 1
  simp [List.getD_eq_getElem?_getD, List.getElem?_take_of_lt hi]
theorem subM_mat {a : List (List Int)} {k i j} (h : k ≤ a.length) (hi : i < k) (hj : j < k) : matF (subM a k) i j = matF a i j := by
  unfold matF
  rw [subM_get h hi]
  simp [List.getD_eq_getElem?_getD, List.getElem?_take_of_lt hj]
/-- a square matrix whose elimination is looked at -/
structure Sqd (a : List (List Int)) : Prop where
  z : SzM 256 a
  n : a.length ≤ 12
  n0 : 0 < a.length
  q : ∀ i, i < a.length → (a.getD i []).length = a.length
  s : SymG (matF a)
theorem sqd_sub {a k} (h : Sqd a) (hk : k ≤ a.length) (h0 : 0 < k) : Sqd (subM a k) := by
  have hl := subM_len hk
  have hq : ∀ i, i < (subM a k).length → ((subM a k).getD i []).length = (subM a k).length := fun i hi => by
    rw [hl] at hi ⊢
    rw [subM_get hk hi, List.length_take, h.q i (by omega)]; omega
  refine ⟨fun i j => ?_, by rw [hl]; have := h.n; omega, by omega, hq, matF_sym hq fun i hi j hj => ?_⟩
  · by_cases hij : i < k ∧ j < k
    · have := subM_mat hk hij.1 hij.2
      unfold matF at this; rw [this]; exact h.z i j
    · have := matF_out hq (i := i) (j := j) (by rw [hl]; exact hij)
      unfold matF at this; rw [this]; exact Sz.zero _
  · rw [hl] at hi
    rw [subM_mat hk hi (by omega), subM_mat hk (by omega) hi]; exact h.s i j
/-- what is known of a determinant -/
def DetP (a : List (List Int)) (d : Int) : Prop := Sz 4317512249 d ∧ (PosU (matF a) (a.length - 1) → d = uD (matF a) a.length)
def DetsOk (a : List (List Int)) (mm : Nat) (ds : List Int) : Prop := ds.length = mm ∧ SzL 4317512249 ds ∧ ∀ i, i < mm → PosU (matF a) i → ds.getD i 0 = uE (matF a) i i i
theorem dets_0 (a) : DetsOk a 0 [] := ⟨rfl, SzL.nil _, fun i hi => absurd hi (by omega)⟩
theorem dets_snoc {a mm ds d} (hm : mm < a.length) (h : DetsOk a mm ds) (hd : DetP (subM a (mm + 1)) d) : DetsOk a (mm + 1) (ds ++ [d]) := by
  obtain ⟨h1, h2, h3⟩ := h
  obtain ⟨d1, d2⟩ := hd
  have hl := subM_len (a := a) (k := mm + 1) (by omega)
  rw [hl] at d2
  have hc : ∀ i j, i < mm + 1 → j < mm + 1 → matF (subM a (mm + 1)) i j = matF a i j := fun i j hi hj => subM_mat (by omega) hi hj
  refine ⟨by simp [h1], fun i => ?_, fun i hi hp => ?_⟩
  · rcases Nat.lt_trichotomy i mm with e | e | e
    · have : (ds ++ [d]).getD i 0 = ds.getD i 0 := by simp [List.getD_eq_getElem?_getD, List.getElem?_append_left (show i < ds.length by omega)]
      rw [this]; exact h2 i
    · have : (ds ++ [d]).getD i 0 = d := by rw [e, ← h1]; simp [List.getD_eq_getElem?_getD]
      rw [this]; exact d1
    · rw [List.getD_eq_getElem?_getD, List.getElem?_eq_none (by simp; omega)]; exact Sz.zero _
  · by_cases e : i < mm
    · have : (ds ++ [d]).getD i 0 = ds.getD i 0 := by simp [List.getD_eq_getElem?_getD, List.getElem?_append_left (show i < ds.length by omega)]
      rw [this]; exact h3 i e hp
    · have e2 : i = mm := by omega
      subst e2
      have : (ds ++ [d]).getD i 0 = d := by rw [← h1]; simp [List.getD_eq_getElem?_getD]
      rw [this, d2 ?_]
      · exact uD_congr hc (Nat.le_refl _)
      · have hp2 : PosU (matF (subM a (i + 1))) i := fun l hl2 => by
          rw [(uE_congr hc l l l (by omega) (by omega) (by omega)).1]; exact hp l hl2
        exact hp2
theorem gOk_no {G n i} (hi : i < n) (h : (uE G i i i).sign ≤ 0) : gOk G n = false := (gso_no hi h).1
theorem quadE_no {a i} (h : qshape a = 0) (hi : i < a.length) (hs : (uE (matF a) i i i).sign ≤ 0) : quadE a = 221 := quadE_2 (by omega) (gOk_no hi hs)
theorem quadE_yes {a} (h : qshape a = 0) (hp : PosU (matF a) a.length) : quadE a = 0 := quadE_3 (by omega) (gOk_iff.2 hp)
theorem sqd_sqm {a} (h : Sqm a) : Sqd a := ⟨h.z, h.n, h.n0, h.q, h.s⟩
theorem rec_rank {a : List (List Int)} (h : Sqd a) : RectL a ∧ rect a = true := by
  have : RectL a := fun i hi => by rw [h.q i hi, h.q 0 h.n0]
  exact ⟨this, rect_iff.2 this⟩
theorem sh_sqd {a} (h : Sqd a) : shN a = (a.length : Int) ∧ shM a = (a.length : Int) ∧ shE a = 0 := by
  have hr := (rec_rank h).2
  unfold shN shM shE
  rw [if_pos hr, if_pos hr, if_pos hr, h.q 0 h.n0]; exact ⟨rfl, rfl, rfl⟩
theorem det_end {a : List (List Int)} (h : Sqd a) {top : Nat} {f : Fq} {d : Rat} (hr : RedI (matF a) a.length 256 a.length top f d) : DetP a (rq d).1 := by
  refine ⟨hr.zd.a.up (by have := szE_le (c := a.length) (s := 256) h.n (by omega); omega), fun hp => ?_⟩
  rw [red_end h.s hr h.n0 hp, rq_int]
theorem gRow_min {G : Nat → Nat → Int} {i j : Nat} (h : j ≤ i) : gRow G i (min j i) = gRow G i j := by rw [Nat.min_eq_left h]
theorem dI_le {i j} (h : j ≤ i) : dI i j = i := if_pos h

end Fw

