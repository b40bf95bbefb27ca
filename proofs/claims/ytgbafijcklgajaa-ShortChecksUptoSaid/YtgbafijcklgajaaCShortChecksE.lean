/- Frame, facts and contracts for ShortChecks. -/
import Derived.Test.YtgbafijcklgajaaCShortChecksD
/- Combinations of rows: what the functions answer. -/
set_option linter.unusedVariables false
set_option linter.unusedSimpArgs false
set_option exponentiation.threshold 400
namespace Fw
open Go Go.Proofs

set_option maxRecDepth 20000 in
set_option maxHeartbeats 1000000 in
theorem c_mat_combine (n : Nat) (x : List Int) (b : List (List Int)) (hx : SzL n x) (hb : SzM n b) (hr : RectL b) (hl : b.length ≤ x.length) (hn : n + n + b.length ≤ 549755813000) : Fn Try.prog 141 [(kSl kZ).is x, (kSl (kSl kZ)).is b] ((kSl kC).is (combV x b)) := by
  refine Con.enter Try.func141 rfl rfl fun m w => ?_
  refine ST.fact (i := 0) rfl sl_len fun hA => ?_
  refine ST.fact (i := 1) rfl sl_len fun hB => ?_
  refine CW.seq ?_
  refine CW.region ?_
  refine WP.s .n (O.asg rfl) ?_
  refine WP.nil ?_
  refine QE.next ?_
  refine CW.seq ?_
  refine CW.seq ?_
  refine CW.region ?_
  refine WP.s .n (O.mv rfl) ?_
  refine WP.s .n (O.lenS rfl Try.underlying67) ?_
  refine WP.s .n (O.eq rfl rfl) ?_
  refine WP.nil ?_
  refine QE.next ?_
  refine CW.condD rfl (fun h_t12 => ?_) (fun h_t12 => ?_)
  · refine CW.seq ?_
    refine ST.told (q := (kSl kC).is (combV x b)) 4 rfl (VP.le_trans (nil_le _) (is_eq (combV_nil x (by omega)).symm)) ?_
    refine CW.region ?_
    refine WP.s .n (O.asg rfl) ?_
    refine WP.nil ?_
    refine QE.next ?_
    refine CW.ret ?_
    refine QE.thenR ?_
    refine ST.told (q := (kSl kC).is (combV x b)) 4 rfl (VP.le_trans (nil_le _) (is_eq (combV_nil x (by omega)).symm)) ?_
    exact QE.done (.inl rfl) rfl (ResOk.t rfl ResOk.nil) (OImp.sub (List.nil_sublist _)) ⟨rfl, rfl⟩
  · refine CW.skip ?_
    refine QE.next ?_
    refine CW.seq ?_
    refine CW.region ?_
    refine WP.s .n (O.mv rfl) ?_
    refine WP.s .n (O.ix 0 rfl rfl Try.underlying67 ty27 rfl (v := (b.getD 0 [])) (gd [] (by (first | omega | (simp only [combP_len]; have := hr i (by omega); omega))))) ?_
    refine WP.s .n (O.ldP rfl ty27) ?_
    refine ST.fact (i := 15) rfl sl_len fun hlr => ?_
    refine WP.s .n (O.lenS rfl Try.underlying27) ?_
    refine WP.mk ((b.getD 0 []).length) .n rfl rfl rfl (by (first | omega | (simp only [combP_len]; have := hr i (by omega); omega))) Try.underlying27 el31_C z31_C fun v1 => ?_
    refine WP.s .n (O.asg rfl) ?_
    refine WP.nil ?_
    refine QE.next ?_
    refine CW.seq ?_
    refine CW.seq ?_
    refine CW.region ?_
    refine WP.s .n (O.mv rfl) ?_
    refine WP.s .n (O.lenS rfl Try.underlying67) ?_
    refine WP.s .n (O.mv rfl) ?_
    refine WP.nil ?_
    refine QE.next ?_
    refine CW.block ?_
    refine ST.obtold 0 rfl (OB.row_eq (ys := (combP x b 0 0)) (combP_zero x b).symm) ?_
    refine CW.loop (fun (i : Nat) => i ≤ b.length) (fun (i : Nat) => [(0, (kSl kZ).is x), (1, (kSl (kSl kZ)).is b), (5, VP.ex v1), (18, (kSl (kSl kZ)).is b), (19, (kInt .i64).is (b.length : Int)), (20, (kInt .i64).is (i : Int))]) (fun (i : Nat) => [OB.row v1 31 kC (combP x b i 0)]) (fun (i : Nat) => b.length - i) 0 (by omega) (Imp.cons rfl (Imp.cons rfl (Imp.cons rfl (Imp.cons rfl (Imp.cons rfl (Imp.consLe rfl (is_eq (y := (0 : Int)) (by first | rfl | omega | assumption)) Imp.nil)))))) (OImp.refl _) ?_
    intro i hi
    refine CW.seq ?_
    refine CW.region ?_
    refine WP.s .n (O.lt rfl rfl) ?_
    refine WP.nil ?_
    refine QE.next ?_
    refine CW.seq ?_
    refine CW.condD rfl (fun h_t21 => ?_) (fun h_t21 => ?_)
    · refine CW.skip ?_
      refine QE.next ?_
      refine CW.seq ?_
      refine CW.block ?_
      refine CW.seq ?_
      refine CW.region ?_
      refine WP.s .n (O.mv rfl) ?_
      refine WP.s .n (O.ix i rfl rfl Try.underlying67 ty27 rfl (v := (b.getD i [])) (gd [] (by (first | omega | (simp only [combP_len]; have := hr i (by omega); omega))))) ?_
      refine WP.s .n (O.ldP rfl ty27) ?_
      refine WP.s .n (O.asg rfl) ?_
      refine WP.s .n (O.asg rfl) ?_
      refine WP.nil ?_
      refine QE.next ?_
      refine CW.seq ?_
      refine CW.region ?_
      refine ST.fact (i := 7) rfl sl_len fun hlk => ?_
      refine WP.s .n (O.mv rfl) ?_
      refine WP.s .n (O.lenS rfl Try.underlying27) ?_
      refine WP.s .n (O.mv rfl) ?_
      refine WP.nil ?_
      refine QE.next ?_
      refine CW.block ?_
      refine CW.loop (fun (k : Nat) => k ≤ (b.getD i []).length) (fun (k : Nat) => [(0, (kSl kZ).is x), (1, (kSl (kSl kZ)).is b), (5, VP.ex v1), (6, (kInt .i64).is (i : Int)), (7, (kSl kZ).is (b.getD i [])), (18, (kSl (kSl kZ)).is b), (19, (kInt .i64).is (b.length : Int)), (20, (kInt .i64).is (i : Int)), (25, (kSl kZ).is (b.getD i [])), (26, (kInt .i64).is ((b.getD i []).length : Int)), (27, (kInt .i64).is (k : Int))]) (fun (k : Nat) => [OB.row v1 31 kC (combP x b i k)]) (fun (k : Nat) => (b.getD i []).length - k) 0 (by omega) (Imp.cons rfl (Imp.cons rfl (Imp.cons rfl (Imp.cons rfl (Imp.cons rfl (Imp.cons rfl (Imp.cons rfl (Imp.cons rfl (Imp.cons rfl (Imp.cons rfl (Imp.consLe rfl (is_eq (y := (0 : Int)) (by first | rfl | omega | assumption)) Imp.nil))))))))))) (OImp.refl _) ?_
      intro k hk
      refine CW.seq ?_
      refine CW.region ?_
      refine WP.s .n (O.lt rfl rfl) ?_
      refine WP.nil ?_
      refine QE.next ?_
      refine CW.seq ?_
      refine CW.condD rfl (fun h_t28 => ?_) (fun h_t28 => ?_)
      · refine CW.skip ?_
        refine QE.next ?_
        refine CW.seq ?_
        refine CW.block ?_
        refine CW.seq ?_
        refine CW.region ?_
        refine WP.s .n (O.mv rfl) ?_
        refine WP.s .n (O.ix k rfl rfl Try.underlying27 ty31 rfl (v := ((b.getD i []).getD k 0)) (gd 0 (by (first | omega | (simp only [combP_len]; have := hr i (by omega); omega))))) ?_
        refine WP.s .n (O.ldP rfl ty31) ?_
        refine WP.al .n z31_C fun b2 => ?_
        refine WP.s .n (O.asg rfl) ?_
        refine WP.t .n (O.stW (l := kZ) (u := ((b.getD i []).getD k 0)) 0 rfl rfl rfl ty31 rfl (VP.le_refl _)) ?_
        refine WP.nil ?_
        refine QE.next ?_
        refine CW.draw (Γ := [.fr (VP.ex v1), .fr ((kInt .i64).is (k : Int)), .fr (VP.ex v1), .fr ((kInt .i64).is (k : Int)), .fr (VP.pel v1 (k * 2)), .fr (kC.is (combN x b k i)), .fr ((kSl kZ).is x), .fr ((kInt .i64).is (i : Int)), .fr (VP.pim kZ (x.getD i 0)), .fr (kZ.is (x.getD i 0)), .fr (kZ.is ((b.getD i []).getD k 0)), .fr (kC.is ((x.getD i 0) * ((b.getD i []).getD k 0))), .fr (kC.is ((combN x b k i) + ((x.getD i 0) * ((b.getD i []).getD k 0)))), .fr (VP.pel v1 (k * 2))]) (lates := [false, false, false, false, false, false, false, false, false, false, false, false, false, false]) (by kernel_rfl) (Chk.of rfl (by kernel_rfl) rfl) (fun _ _ _ _ _ h => h) (fun q_ x_ h_ => ?_) (fun σ1 => ?_)
        · match q_, h_ with
          | 0, h_ => cases h_; exact Ob.f rfl .n fun N => (O.mv rfl)
          | 1, h_ => cases h_; exact Ob.f rfl .n fun N => (O.mv rfl)
          | 2, h_ => cases h_; exact Ob.f rfl .n fun N => (O.mv rfl)
          | 3, h_ => cases h_; exact Ob.f rfl .n fun N => (O.mv rfl)
          | 4, h_ => cases h_; exact Ob.f rfl .n fun N => (O.ixR (k := kC) (xs := (combP x b i k)) (n := (k : Int)) k rfl rfl (mem_app N (mem_at 1 rfl)) Try.underlying27 ty31 rfl (by (first | omega | (simp only [combP_len]; have := hr i (by omega); omega))))
          | 5, h_ => cases h_; exact Ob.f rfl .n fun N => (O.ldR (k := kC) (xs := (combP x b i k)) k rfl (mem_app N (mem_at 1 rfl)) (Lens.id _) (ho := rfl) (y := (combN x b k i)) (combP_at (by have := hr i (by omega); omega)) ty31 rfl)
          | 6, h_ => cases h_; exact Ob.f rfl .n fun N => (O.mv rfl)
          | 7, h_ => cases h_; exact Ob.f rfl .n fun N => (O.mv rfl)
          | 8, h_ => cases h_; exact Ob.f rfl .n fun N => (O.ix i rfl rfl Try.underlying27 ty31 rfl (v := (x.getD i 0)) (gd 0 (by (first | omega | (simp only [combP_len]; have := hr i (by omega); omega)))))
          | 9, h_ => cases h_; exact Ob.f rfl .n fun N => (O.ldP rfl ty31)
          | 10, h_ => cases h_; exact Ob.f rfl .n fun N => (O.ld rfl (mem_app N (mem_at 0 rfl)) (Lens.id _) ty31 rfl)
          | 11, h_ => cases h_; exact Ob.f rfl .n fun N => (O.fn fn76 (evs.c rfl (evs.c rfl evs.nil)) (c_zint_Mul (x.getD i 0) ((b.getD i []).getD k 0)))
          | 12, h_ => cases h_; exact Ob.f rfl .n fun N => (O.fn fn77 (evs.l rfl (kC_Z (by first | exact (hx i).sm (by omega) | exact (hb i k).sm (by omega) | exact (combN_Sz hx hb k i).sm (by omega) | exact ((hx i).mul (hb i k)).sm (by omega))) (evs.l rfl (kC_Z (by first | exact (hx i).sm (by omega) | exact (hb i k).sm (by omega) | exact (combN_Sz hx hb k i).sm (by omega) | exact ((hx i).mul (hb i k)).sm (by omega))) evs.nil)) (c_zint_Add (combN x b k i) ((x.getD i 0) * ((b.getD i []).getD k 0))))
          | 13, h_ => cases h_; exact Ob.f rfl .n fun N => (O.ixR (k := kC) (xs := (combP x b i k)) (n := (k : Int)) k rfl rfl (mem_app N (mem_at 1 rfl)) Try.underlying27 ty31 rfl (by (first | omega | (simp only [combP_len]; have := hr i (by omega); omega))))
          | n_ + 14, h_ => simp at h_
        refine WP.t .n (O.stR 1 k rfl rfl (Lens.id _) rfl (y0 := ((combP x b i k).getD k 0)) (gd 0 (by (first | omega | (simp only [combP_len]; have := hr i (by omega); omega)))) ty31 rfl (VP.le_refl _)) ?_
        refine WP.nil ?_
        refine QE.blkN ?_
        refine QE.next ?_
        refine CW.region ?_
        refine WP.s .n (O.add rfl rfl (c := ((k : Int) + 1)) (w64 (by omega))) ?_
        refine WP.s .n (O.mv rfl) ?_
        refine WP.nil ?_
        refine ST.obtold 1 rfl (OB.row_eq (ys := (combP x b i (k + 1))) (combP_set (by have := hr i (by omega); omega))) ?_
        exact QE.round (k + 1) (by omega) (by omega) (Imp.cons rfl (Imp.cons rfl (Imp.cons rfl (Imp.cons rfl (Imp.cons rfl (Imp.cons rfl (Imp.cons rfl (Imp.cons rfl (Imp.cons rfl (Imp.cons rfl (Imp.consLe rfl (is_eq (y := (((k + 1) : Nat) : Int)) (by first | rfl | omega | assumption)) Imp.nil))))))))))) (OImp.os (OS.skip (OS.keep OS.nil)))
      · refine CW.exit ?_
        refine QE.thenE ?_
        refine QE.thenE ?_
        refine QE.blkH ?_
        refine QE.blkN ?_
        refine QE.next ?_
        refine CW.region ?_
        refine WP.s .n (O.add rfl rfl (c := ((i : Int) + 1)) (w64 (by omega))) ?_
        refine WP.s .n (O.mv rfl) ?_
        refine WP.nil ?_
        refine ST.obtold 0 rfl (OB.row_eq (ys := (combP x b (i + 1) 0)) (combP_row (by have := hr i (by omega); omega))) ?_
        exact QE.round (i + 1) (by omega) (by omega) (Imp.cons rfl (Imp.cons rfl (Imp.cons rfl (Imp.cons rfl (Imp.cons rfl (Imp.consLe rfl (is_eq (y := (((i + 1) : Nat) : Int)) (by first | rfl | omega | assumption)) Imp.nil)))))) (OImp.refl _)
    · refine CW.exit ?_
      refine QE.thenE ?_
      refine QE.thenE ?_
      refine QE.blkH ?_
      refine QE.next ?_
      refine CW.seq ?_
      refine CW.region ?_
      refine WP.s .n (O.mv rfl) ?_
      refine WP.s .n (O.asg rfl) ?_
      refine WP.nil ?_
      refine QE.next ?_
      refine CW.ret ?_
      refine ST.freeze 0 rfl (.keep (i := 0) rfl (.keep (i := 1) rfl (.hit (i := 4) rfl (.hit (i := 5) rfl (.keep (i := 18) rfl (.keep (i := 19) rfl (.keep (i := 20) rfl (.keep (i := 21) rfl (.hit (i := 48) rfl .nil))))))))) ?_
      refine ST.told 4 rfl (is_eq (y := (combV x b)) (by rw [show i = b.length by omega, combP_end])) ?_
      exact QE.done (.inl rfl) rfl (ResOk.t rfl ResOk.nil) (OImp.sub (List.nil_sublist _)) ⟨rfl, rfl⟩

set_option maxRecDepth 20000 in
set_option maxHeartbeats 1000000 in
theorem c_mat_Combine (n : Nat) (x : List Int) (b : List (List Int)) (hx : SzL n x) (hb : SzM n b) (hn : n + n + b.length ≤ 549755813000) : Fn Try.prog 69 [(kSl kZ).is x, (kSl (kSl kZ)).is b] (VP.tup [(kSl kC).is (combA x b), (kInt .i64).is (combE x b)]) := by
  refine Con.enter Try.func69 rfl rfl fun m w => ?_
  refine ST.fact (i := 0) rfl sl_len fun hA => ?_
  refine ST.fact (i := 1) rfl sl_len fun hB => ?_
  refine CW.seq ?_
  refine CW.region ?_
  refine WP.s .n (O.asg rfl) ?_
  refine WP.s .n (O.asg rfl) ?_
  refine WP.nil ?_
  refine QE.next ?_
  refine CW.seq ?_
  refine CW.region ?_
  refine WP.s .n (O.mv rfl) ?_
  refine WP.s .n (O.fn fn135 (evs.c rfl evs.nil) (c_mat_Shape b)) ?_
  refine WP.s .n (O.mv rfl) ?_
  refine WP.s .n (O.ext rfl rfl) ?_
  refine WP.s .n (O.ext rfl rfl) ?_
  refine WP.s .n (O.ext rfl rfl) ?_
  refine WP.s .n (O.asg rfl) ?_
  refine WP.s .n (O.asg rfl) ?_
  refine WP.s .n (O.asg rfl) ?_
  refine WP.nil ?_
  refine QE.next ?_
  refine CW.seq ?_
  refine CW.seq ?_
  refine CW.region ?_
  refine WP.s .n (O.mv rfl) ?_
  refine WP.s .n (O.ne rfl rfl) ?_
  refine WP.s .n (O.mv rfl) ?_
  refine WP.splitD 17 rfl (fun h_t17 => ?_) (fun h_t17 => ?_)
  · have hno : ¬ combOk x b := fun h => not_rect_of_shE h_t17 h.1
    refine WP.ku (b := true) rfl rfl ?_
    refine WP.ku (b := true) rfl rfl ?_
    refine WP.ku (b := true) rfl rfl ?_
    refine WP.ku (b := true) rfl rfl ?_
    refine WP.s .n (O.pickT rfl rfl) ?_
    refine WP.nil ?_
    refine QE.next ?_
    refine CW.condT rfl ?_
    refine CW.seq ?_
    refine CW.region ?_
    refine WP.s .n (O.asg rfl) ?_
    refine WP.s .n (O.asg rfl) ?_
    refine WP.nil ?_
    refine QE.next ?_
    refine CW.ret ?_
    refine QE.thenR ?_
    refine ST.told (q := (kSl kC).is (combA x b)) 4 rfl (VP.le_trans (nil_le _) (is_eq (comb_no hno).1.symm)) ?_
    refine ST.told 5 rfl (is_eq (y := (combE x b)) (comb_no hno).2.symm) ?_
    exact QE.done (.inl rfl) rfl (ResOk.t rfl (ResOk.t rfl ResOk.nil)) (OImp.sub (List.nil_sublist _)) ⟨rfl, rfl⟩
  · refine WP.s (.g rfl rfl) (O.mv rfl) ?_
    refine WP.s (.g rfl rfl) (O.lenS rfl Try.underlying27) ?_
    refine WP.s (.g rfl rfl) (O.mv rfl) ?_
    refine WP.s (.g rfl rfl) (O.ne rfl rfl) ?_
    refine WP.s .n (O.pickF rfl rfl) ?_
    refine WP.nil ?_
    refine QE.next ?_
    refine CW.condD rfl (fun h_t22 => ?_) (fun h_t22 => ?_)
    · refine CW.seq ?_
      refine CW.region ?_
      refine WP.s .n (O.asg rfl) ?_
      refine WP.s .n (O.asg rfl) ?_
      refine WP.nil ?_
      refine QE.next ?_
      refine CW.ret ?_
      refine QE.thenR ?_
      have hno : ¬ combOk x b := fun h => h_t22 (by rw [h.2]; unfold shN; rw [if_pos h.1])
      refine ST.told (q := (kSl kC).is (combA x b)) 4 rfl (VP.le_trans (nil_le _) (is_eq (comb_no hno).1.symm)) ?_
      refine ST.told 5 rfl (is_eq (y := (combE x b)) (comb_no hno).2.symm) ?_
      exact QE.done (.inl rfl) rfl (ResOk.t rfl (ResOk.t rfl ResOk.nil)) (OImp.sub (List.nil_sublist _)) ⟨rfl, rfl⟩
    · refine CW.skip ?_
      refine QE.next ?_
      refine CW.seq ?_
      have hok : combOk x b := ⟨rect_of_shE h_t17, by have h := h_t22; unfold shN at h; rw [if_pos (rect_of_shE h_t17)] at h; omega⟩
      refine CW.region ?_
      refine WP.s .n (O.mv rfl) ?_
      refine WP.s .n (O.mv rfl) ?_
      refine WP.s .n (O.fn fn141 (evs.c rfl (evs.c rfl evs.nil)) (c_mat_combine n x b (by first | assumption | exact rectL hok.1 | (have := hok.2; omega)) (by first | assumption | exact rectL hok.1 | (have := hok.2; omega)) (by first | assumption | exact rectL hok.1 | (have := hok.2; omega)) (by first | assumption | exact rectL hok.1 | (have := hok.2; omega)) (by first | assumption | exact rectL hok.1 | (have := hok.2; omega)))) ?_
      refine WP.s .n (O.asg rfl) ?_
      refine WP.s .n (O.asg rfl) ?_
      refine WP.nil ?_
      refine QE.next ?_
      refine CW.ret ?_
      refine ST.told 4 rfl (is_eq (y := (combA x b)) (comb_yes hok).1) ?_
      refine ST.told 5 rfl (is_eq (y := (combE x b)) (comb_yes hok).2.symm) ?_
      exact QE.done (.inl rfl) rfl (ResOk.t rfl (ResOk.t rfl ResOk.nil)) (OImp.sub (List.nil_sublist _)) ⟨rfl, rfl⟩

set_option maxRecDepth 20000 in
set_option maxHeartbeats 1000000 in
theorem c_ref04_Combine (n : Nat) (x : List Int) (b : List (List Int)) (hx : SzL n x) (hb : SzM n b) (hn : n + n + b.length ≤ 549755813000) : Fn Try.prog 122 [(kSl kZ).is x, (kSl (kSl kZ)).is b] (VP.tup [(kSl kC).is (combA x b), (kInt .i64).is (combE x b)]) := by
  refine Con.enter Try.func122 rfl rfl fun m w => ?_
  refine ST.fact (i := 0) rfl sl_len fun hA => ?_
  refine ST.fact (i := 1) rfl sl_len fun hB => ?_
  refine CW.seq ?_
  refine CW.region ?_
  refine WP.s .n (O.asg rfl) ?_
  refine WP.s .n (O.asg rfl) ?_
  refine WP.nil ?_
  refine QE.next ?_
  refine CW.seq ?_
  refine CW.region ?_
  refine WP.s .n (O.mv rfl) ?_
  refine WP.s .n (O.fn fn172 (evs.c rfl evs.nil) (c_ref04_Shape b)) ?_
  refine WP.s .n (O.mv rfl) ?_
  refine WP.s .n (O.ext rfl rfl) ?_
  refine WP.s .n (O.ext rfl rfl) ?_
  refine WP.s .n (O.ext rfl rfl) ?_
  refine WP.s .n (O.asg rfl) ?_
  refine WP.s .n (O.asg rfl) ?_
  refine WP.s .n (O.asg rfl) ?_
  refine WP.nil ?_
  refine QE.next ?_
  refine CW.seq ?_
  refine CW.seq ?_
  refine CW.region ?_
  refine WP.s .n (O.mv rfl) ?_
  refine WP.s .n (O.ne rfl rfl) ?_
  refine WP.s .n (O.mv rfl) ?_
  refine WP.splitD 21 rfl (fun h_t21 => ?_) (fun h_t21 => ?_)
  · refine WP.ku (b := true) rfl rfl ?_
    refine WP.ku (b := true) rfl rfl ?_
    refine WP.ku (b := true) rfl rfl ?_
    refine WP.ku (b := true) rfl rfl ?_
    refine WP.ku (b := true) rfl rfl ?_
    refine WP.s .n (O.pickT rfl rfl) ?_
    refine WP.nil ?_
    refine QE.next ?_
    refine CW.condT rfl ?_
    refine CW.seq ?_
    refine CW.region ?_
    refine WP.s .n (O.asg rfl) ?_
    refine WP.s .n (O.asg rfl) ?_
    refine WP.nil ?_
    refine QE.next ?_
    refine CW.ret ?_
    refine QE.thenR ?_
    have hno : ¬ combOk x b := fun h => not_rect_of_shE h_t21 h.1
    refine ST.told (q := (kSl kC).is (combA x b)) 4 rfl (VP.le_trans (nil_le _) (is_eq (comb_no hno).1.symm)) ?_
    refine ST.told 5 rfl (is_eq (y := (combE x b)) (comb_no hno).2.symm) ?_
    exact QE.done (.inl rfl) rfl (ResOk.t rfl (ResOk.t rfl ResOk.nil)) (OImp.sub (List.nil_sublist _)) ⟨rfl, rfl⟩
  · refine WP.s (.g rfl rfl) (O.mv rfl) ?_
    refine WP.s (.g rfl rfl) (O.lenS rfl Try.underlying27) ?_
    refine WP.s (.g rfl rfl) (O.mv rfl) ?_
    refine WP.s (.g rfl rfl) (O.lenS rfl Try.underlying67) ?_
    refine WP.s (.g rfl rfl) (O.ne rfl rfl) ?_
    refine WP.s .n (O.pickF rfl rfl) ?_
    refine WP.nil ?_
    refine QE.next ?_
    refine CW.condD rfl (fun h_t27 => ?_) (fun h_t27 => ?_)
    · refine CW.seq ?_
      refine CW.region ?_
      refine WP.s .n (O.asg rfl) ?_
      refine WP.s .n (O.asg rfl) ?_
      refine WP.nil ?_
      refine QE.next ?_
      refine CW.ret ?_
      refine QE.thenR ?_
      have hno : ¬ combOk x b := fun h => h_t27 (by rw [h.2])
      refine ST.told (q := (kSl kC).is (combA x b)) 4 rfl (VP.le_trans (nil_le _) (is_eq (comb_no hno).1.symm)) ?_
      refine ST.told 5 rfl (is_eq (y := (combE x b)) (comb_no hno).2.symm) ?_
      exact QE.done (.inl rfl) rfl (ResOk.t rfl (ResOk.t rfl ResOk.nil)) (OImp.sub (List.nil_sublist _)) ⟨rfl, rfl⟩
    · refine CW.skip ?_
      refine QE.next ?_
      refine CW.seq ?_
      have hok : combOk x b := ⟨rect_of_shE h_t21, by have h := h_t27; omega⟩
      have hr := rectL hok.1
      refine ST.fact (i := 1) rfl slsl_len fun hlc => ?_
      have hlc0 := hlc 0
      refine ST.told 7 rfl (is_eq (y := ((b.getD 0 []).length : Int)) (by unfold shM; rw [if_pos hok.1])) ?_
      refine CW.region ?_
      refine WP.s .n (O.asg rfl) ?_
      refine WP.nil ?_
      refine QE.next ?_
      refine CW.seq ?_
      refine CW.seq ?_
      refine CW.region ?_
      refine WP.s .n (O.asg rfl) ?_
      refine WP.nil ?_
      refine QE.next ?_
      refine CW.block ?_
      refine ST.nilrow 31 kC ?_
      refine CW.loop2 (fun (k : Nat) (v : Value) => k ≤ (b.getD 0 []).length) (fun (k : Nat) (v : Value) => [(0, (kSl kZ).is x), (1, (kSl (kSl kZ)).is b), (7, (kInt .i64).is ((b.getD 0 []).length : Int)), (9, VP.ex v), (10, (kInt .i64).is (k : Int))]) (fun (k : Nat) (v : Value) => [OB.row v 31 kC ((combV x b).take k)]) (fun (k : Nat) (v : Value) => (b.getD 0 []).length - k) 0 (.slice none 0 0) (by omega) (Imp.cons rfl (Imp.cons rfl (Imp.cons rfl (Imp.cons rfl (Imp.consLe rfl (is_eq (y := (0 : Int)) (by first | rfl | omega | assumption)) Imp.nil))))) (OImp.os (OS.keepLe (OB.row_eq (by first | rfl | omega | assumption)) OS.nil)) ?_
      intro k v hk
      refine CW.seq ?_
      refine CW.seq ?_
      have hcl : (combV x b).length = (b.getD 0 []).length := combV_len x b
      have hct : ((combV x b).take k).length = k := by rw [List.length_take]; omega
      refine CW.region ?_
      refine WP.s .n (O.mv rfl) ?_
      refine WP.s .n (O.mv rfl) ?_
      refine WP.s .n (O.lt rfl rfl) ?_
      refine WP.nil ?_
      refine QE.next ?_
      refine CW.condD rfl (fun h_t30 => ?_) (fun h_t30 => ?_)
      · refine CW.skip ?_
        refine QE.next ?_
        refine CW.seq ?_
        refine CW.block ?_
        refine CW.seq ?_
        refine CW.region ?_
        refine WP.s .n (O.fn fn78 (evs.l rfl (i64_int (by omega)) evs.nil) (c_ref02_Of 0)) ?_
        refine WP.al .n z31_C fun b1 => ?_
        refine WP.t .n (O.stW (l := kC) (u := 0) 0 rfl rfl rfl ty31 rfl (VP.le_refl _)) ?_
        refine WP.nil ?_
        refine QE.next ?_
        refine CW.seq ?_
        refine CW.seq ?_
        refine CW.region ?_
        refine WP.s .n (O.asg rfl) ?_
        refine WP.nil ?_
        refine QE.next ?_
        refine CW.block ?_
        refine CW.loop (fun (i : Nat) => i ≤ b.length) (fun (i : Nat) => [(0, (kSl kZ).is x), (1, (kSl (kSl kZ)).is b), (7, (kInt .i64).is ((b.getD 0 []).length : Int)), (9, VP.ex v), (10, (kInt .i64).is (k : Int)), (11, VP.ex (.pointer (some ⟨b1, 0, none⟩))), (12, (kInt .i64).is (i : Int))]) (fun (i : Nat) => [OB.box b1 31 kC (combN x b k i), OB.row v 31 kC ((combV x b).take k)]) (fun (i : Nat) => b.length - i) 0 (by omega) (Imp.cons rfl (Imp.cons rfl (Imp.cons rfl (Imp.cons rfl (Imp.cons rfl (Imp.cons rfl (Imp.consLe rfl (is_eq (y := (0 : Int)) (by first | rfl | omega | assumption)) Imp.nil))))))) (OImp.os (OS.keepLe (OB.box_eq (by first | rfl | omega | assumption)) (OS.keep OS.nil))) ?_
        intro i hi
        refine CW.seq ?_
        refine CW.seq ?_
        refine CW.region ?_
        refine WP.s .n (O.mv rfl) ?_
        refine WP.s .n (O.mv rfl) ?_
        refine WP.s .n (O.lenS rfl Try.underlying67) ?_
        refine WP.s .n (O.lt rfl rfl) ?_
        refine WP.nil ?_
        refine QE.next ?_
        refine CW.condD rfl (fun h_t37 => ?_) (fun h_t37 => ?_)
        · refine CW.skip ?_
          refine QE.next ?_
          refine CW.seq ?_
          refine CW.block ?_
          refine CW.draw (Γ := [.fr (kC.is (combN x b k i)), .fr ((kSl kZ).is x), .fr ((kInt .i64).is (i : Int)), .fr (VP.pim kZ (x.getD i 0)), .fr (kZ.is (x.getD i 0)), .fr ((kSl (kSl kZ)).is b), .fr ((kInt .i64).is (i : Int)), .fr (VP.pim (kSl kZ) (b.getD i [])), .fr ((kSl kZ).is (b.getD i [])), .fr ((kInt .i64).is (k : Int)), .fr (VP.pim kZ ((b.getD i []).getD k 0)), .fr (kZ.is ((b.getD i []).getD k 0)), .fr (kC.is ((x.getD i 0) * ((b.getD i []).getD k 0))), .fr (kC.is ((combN x b k i) + ((x.getD i 0) * ((b.getD i []).getD k 0))))]) (lates := [false, false, false, false, false, false, false, false, false, false, false, false, false, false]) (by kernel_rfl) (Chk.of rfl (by kernel_rfl) rfl) (fun _ _ _ _ _ h => h) (fun q_ x_ h_ => ?_) (fun σ1 => ?_)
          · match q_, h_ with
            | 0, h_ => cases h_; exact Ob.f rfl .n fun N => (O.ld rfl (mem_app N (mem_at 0 rfl)) (Lens.id _) ty31 rfl)
            | 1, h_ => cases h_; exact Ob.f rfl .n fun N => (O.mv rfl)
            | 2, h_ => cases h_; exact Ob.f rfl .n fun N => (O.mv rfl)
            | 3, h_ => cases h_; exact Ob.f rfl .n fun N => (O.ix i rfl rfl Try.underlying27 ty31 rfl (v := (x.getD i 0)) (gd 0 (by (first | omega | (have := hr i (by omega); omega)))))
            | 4, h_ => cases h_; exact Ob.f rfl .n fun N => (O.ldP rfl ty31)
            | 5, h_ => cases h_; exact Ob.f rfl .n fun N => (O.mv rfl)
            | 6, h_ => cases h_; exact Ob.f rfl .n fun N => (O.mv rfl)
            | 7, h_ => cases h_; exact Ob.f rfl .n fun N => (O.ix i rfl rfl Try.underlying67 ty27 rfl (v := (b.getD i [])) (gd [] (by (first | omega | (have := hr i (by omega); omega)))))
            | 8, h_ => cases h_; exact Ob.f rfl .n fun N => (O.ldP rfl ty27)
            | 9, h_ => cases h_; exact Ob.f rfl .n fun N => (O.mv rfl)
            | 10, h_ => cases h_; exact Ob.f rfl .n fun N => (O.ix k rfl rfl Try.underlying27 ty31 rfl (v := ((b.getD i []).getD k 0)) (gd 0 (by (first | omega | (have := hr i (by omega); omega)))))
            | 11, h_ => cases h_; exact Ob.f rfl .n fun N => (O.ldP rfl ty31)
            | 12, h_ => cases h_; exact Ob.f rfl .n fun N => (O.fn fn91 (evs.c rfl (evs.c rfl evs.nil)) (c_ref02_Mul (x.getD i 0) ((b.getD i []).getD k 0)))
            | 13, h_ => cases h_; exact Ob.f rfl .n fun N => (O.fn fn79 (evs.l rfl (kC_Z (by first | exact (hx i).sm (by omega) | exact (hb i k).sm (by omega) | exact (combN_Sz hx hb k i).sm (by omega) | exact ((hx i).mul (hb i k)).sm (by omega))) (evs.l rfl (kC_Z (by first | exact (hx i).sm (by omega) | exact (hb i k).sm (by omega) | exact (combN_Sz hx hb k i).sm (by omega) | exact ((hx i).mul (hb i k)).sm (by omega))) evs.nil)) (c_ref02_Add (combN x b k i) ((x.getD i 0) * ((b.getD i []).getD k 0))))
            | n_ + 14, h_ => simp at h_
          refine WP.t .n (O.stW (l := kC) (u := (combN x b k i) + ((x.getD i 0) * ((b.getD i []).getD k 0))) 0 rfl rfl rfl ty31 rfl (VP.le_refl _)) ?_
          refine WP.nil ?_
          refine QE.blkN ?_
          refine QE.next ?_
          refine CW.region ?_
          refine WP.s .n (O.mv rfl) ?_
          refine WP.s .n (O.add rfl rfl (c := ((i : Int) + 1)) (w64 (by omega))) ?_
          refine WP.s .n (O.asg rfl) ?_
          refine WP.nil ?_
          refine ST.obtold 0 rfl (OB.box_eq (y := (combN x b k (i + 1))) rfl) ?_
          exact QE.round (i + 1) (by omega) (by omega) (Imp.cons rfl (Imp.cons rfl (Imp.cons rfl (Imp.cons rfl (Imp.cons rfl (Imp.cons rfl (Imp.consLe rfl (is_eq (y := (((i + 1) : Nat) : Int)) (by first | rfl | omega | assumption)) Imp.nil))))))) (OImp.refl _)
        · refine CW.exit ?_
          refine QE.thenE ?_
          refine QE.thenE ?_
          refine QE.blkH ?_
          refine QE.next ?_
          refine CW.region ?_
          refine WP.s .n (O.mv rfl) ?_
          refine WP.s .n (O.ld rfl (mem_at 0 rfl) (Lens.id _) ty31 rfl) ?_
          refine WP.s .n (O.bs Try.underlying27 el31_C (evl.c rfl evl.n) rfl (by decide)) ?_
          refine WP.ap 1 .n rfl rfl rfl (VP.le_refl _) Try.underlying27 el31_C (by (simp only [List.length_cons, List.length_nil]; omega)) fun v2 => ?_
          refine WP.s .n (O.asg rfl) ?_
          refine WP.nil ?_
          refine QE.blkN ?_
          refine QE.next ?_
          refine CW.region ?_
          refine WP.s .n (O.mv rfl) ?_
          refine WP.s .n (O.add rfl rfl (c := ((k : Int) + 1)) (w64 (by omega))) ?_
          refine WP.s .n (O.asg rfl) ?_
          refine WP.nil ?_
          refine ST.obtold 1 rfl (OB.row_eq (ys := ((combV x b).take (k + 1))) (by rw [show i = b.length by omega]; exact combV_app (by omega))) ?_
          exact QE.round2 (k + 1) v2 (by omega) (by omega) (Imp.cons rfl (Imp.cons rfl (Imp.cons rfl (Imp.cons rfl (Imp.consLe rfl (is_eq (y := (((k + 1) : Nat) : Int)) (by first | rfl | omega | assumption)) Imp.nil))))) (OImp.os (OS.skip (OS.keep OS.nil)))
      · refine CW.exit ?_
        refine QE.thenE ?_
        refine QE.thenE ?_
        refine QE.blkH ?_
        refine QE.next ?_
        refine CW.seq ?_
        refine CW.region ?_
        refine WP.s .n (O.mv rfl) ?_
        refine WP.s .n (O.asg rfl) ?_
        refine WP.s .n (O.asg rfl) ?_
        refine WP.nil ?_
        refine QE.next ?_
        refine CW.ret ?_
        refine ST.freeze 0 rfl (.keep (i := 0) rfl (.keep (i := 1) rfl (.hit (i := 4) rfl (.keep (i := 5) rfl (.keep (i := 7) rfl (.hit (i := 9) rfl (.keep (i := 10) rfl (.keep (i := 28) rfl (.keep (i := 29) rfl (.keep (i := 30) rfl (.hit (i := 58) rfl .nil))))))))))) ?_
        refine ST.told 4 rfl (is_eq (y := (combA x b)) (by rw [List.take_of_length_le (by omega)]; exact (comb_yes hok).1)) ?_
        refine ST.told 5 rfl (is_eq (y := (combE x b)) (comb_yes hok).2.symm) ?_
        exact QE.done (.inl rfl) rfl (ResOk.t rfl (ResOk.t rfl ResOk.nil)) (OImp.sub (List.nil_sublist _)) ⟨rfl, rfl⟩

end Fw


/- Gram-Schmidt data: what the program answers. -/
set_option linter.unusedVariables false
set_option linter.unusedSimpArgs false
set_option exponentiation.threshold 400
namespace Fw
open Go Go.Proofs

set_option maxRecDepth 20000 in
set_option maxHeartbeats 1000000 in
theorem c_gso_built (n : Nat) (b : List (List Int)) (hb : SzM n b) (hr : RectL b) (hl : b.length ≤ 12) (hc : (b.getD 0 []).length ≤ 12) (hn : n ≤ 4194304) : Fn Try.prog 184 [(kSl (kSl kZ)).is b] (VP.tup [(kPair (kSl kC) (kSl (kSl kC))).is (gsoV (gram b) b.length), kBool.is (gOk (gram b) b.length)]) := by
  refine Con.enter Try.func184 rfl rfl fun m w => ?_
  refine ST.fact (i := 0) rfl sl_len fun hB => ?_
  refine ST.fact (i := 0) rfl slsl_len fun hlc => ?_
  have hs := gram_symG hr
  have hz : ∀ i j, Sz (n + n + 12) (gram b i j) := fun i j => gram_Sz hb hr hc i j
  have hU : ∀ k, k ≤ 12 → szU (n + n + 12) k ≤ 34359902208 := fun k hk => by have := szU_le (n + n + 12) hk; omega
  refine CW.seq ?_
  refine CW.region ?_
  refine WP.al .n z93_pr_sl_C_sl_sl_C_ fun b1 => ?_
  refine WP.s .n (O.asg rfl) ?_
  refine WP.nil ?_
  refine QE.next ?_
  refine CW.seq ?_
  refine CW.region ?_
  refine WP.s .n (O.fn fn74 (evs.l rfl (i64_int (by omega)) evs.nil) (c_zint_Of 1)) ?_
  refine WP.bso .n Try.underlying27 el31_C (evl.c rfl evl.n) rfl (by decide) fun v2 => ?_
  refine ST.rowcell 0 rfl fun hcell_ => ?_
  refine WP.s .n (O.bld lit93_pr_val_val_ rfl (evp.l rfl (ex_val (by first | rfl | assumption)) evp.n) (.cons rfl (Lens.fst (Lens.id _)) (.nil _))) ?_
  refine WP.al .n z93_pr_val_val_ fun b3 => ?_
  refine WP.t .n (O.stW (l := (kPair kVal kVal)) (u := (v2, (.slice none 0 0))) 0 rfl rfl rfl ty93 rfl (VP.le_refl _)) ?_
  refine WP.nil ?_
  refine QE.next ?_
  refine CW.seq ?_
  refine CW.seq ?_
  refine CW.region ?_
  refine WP.s .n (O.mv rfl) ?_
  refine WP.s .n (O.lenS rfl Try.underlying67) ?_
  refine WP.s .n (O.mv rfl) ?_
  refine WP.nil ?_
  refine QE.next ?_
  refine CW.block ?_
  refine ST.nilrow 27 (kSl kC) ?_
  refine CW.loop3 (fun (i : Nat) (vD : Value) (vL : Value) => i ≤ b.length ∧ PosU (gram b) i) (fun (i : Nat) (vD : Value) (vL : Value) => [(0, (kSl (kSl kZ)).is b), (2, VP.ex (.pointer (some ⟨b1, 0, none⟩))), (3, kBool.is false), (4, VP.ex (.pointer (some ⟨b3, 0, none⟩))), (16, (kInt .i64).is (b.length : Int)), (17, (kInt .i64).is (i : Int))]) (fun (i : Nat) (vD : Value) (vL : Value) => [OB.row vL 27 (kSl kC) (gLs (gram b) i), OB.box b3 93 (kPair kVal kVal) (vD, vL), OB.row vD 31 kC (gDs (gram b) i), OB.box b1 93 (kPair (kSl kC) (kSl (kSl kC))) ([], [])]) (fun (i : Nat) (vD : Value) (vL : Value) => b.length - i) 0 v2 (.slice none 0 0) ⟨Nat.zero_le _, fun l hl => absurd hl (by omega)⟩ (Imp.cons rfl (Imp.cons rfl (Imp.cons rfl (Imp.cons rfl (Imp.cons rfl (Imp.consLe rfl (is_eq (y := (0 : Int)) (by first | rfl | omega | assumption)) Imp.nil)))))) (OImp.os (OS.keepLe (OB.row_eq (by first | rfl | omega | assumption)) (OS.keep (OS.keepLe (OB.row_eq (by first | rfl | omega | assumption)) (OS.keep OS.nil))))) ?_
  intro i vD vL ⟨hi, hP⟩
  refine CW.seq ?_
  refine CW.region ?_
  refine WP.s .n (O.lt rfl rfl) ?_
  refine WP.nil ?_
  refine QE.next ?_
  refine CW.seq ?_
  refine CW.condD rfl (fun h_t18 => ?_) (fun h_t18 => ?_)
  · refine CW.skip ?_
    refine QE.next ?_
    refine CW.seq ?_
    refine CW.block ?_
    refine CW.seq ?_
    refine CW.region ?_
    refine WP.s .n (O.mv rfl) ?_
    refine WP.s .n (O.asg rfl) ?_
    refine WP.nil ?_
    refine QE.next ?_
    refine CW.seq ?_
    refine CW.region ?_
    refine WP.s .n (O.mv rfl) ?_
    refine WP.s .n (O.add rfl rfl (c := ((i : Int) + 1)) (w64 (by omega))) ?_
    refine WP.mk0 ((((i : Int) + 1)).toNat) .n rfl rfl (by omega) (by first | omega | (simp only [gRow_len, gDs_len, gLs_len]; omega)) Try.underlying27 el31_C z31_C fun v4 => ?_
    refine WP.s .n (O.asg rfl) ?_
    refine WP.nil ?_
    refine QE.next ?_
    refine CW.seq ?_
    refine CW.seq ?_
    refine CW.region ?_
    refine WP.s .n (O.asg rfl) ?_
    refine WP.nil ?_
    refine QE.next ?_
    refine CW.block ?_
    refine CW.loop2 (fun (j : Nat) (v : Value) => j ≤ i + 1) (fun (j : Nat) (v : Value) => [(0, (kSl (kSl kZ)).is b), (2, VP.ex (.pointer (some ⟨b1, 0, none⟩))), (3, kBool.is false), (4, VP.ex (.pointer (some ⟨b3, 0, none⟩))), (5, (kInt .i64).is (i : Int)), (6, VP.ex v), (7, (kInt .i64).is (j : Int)), (16, (kInt .i64).is (b.length : Int)), (17, (kInt .i64).is (i : Int))]) (fun (j : Nat) (v : Value) => [OB.row v 31 kC (gRow (gram b) i j), OB.row vL 27 (kSl kC) (gLs (gram b) i), OB.box b3 93 (kPair kVal kVal) (vD, vL), OB.row vD 31 kC (gDs (gram b) i), OB.box b1 93 (kPair (kSl kC) (kSl (kSl kC))) ([], [])]) (fun (j : Nat) (v : Value) => i + 1 - j) 0 v4 (by omega) (Imp.cons rfl (Imp.cons rfl (Imp.cons rfl (Imp.cons rfl (Imp.cons rfl (Imp.cons rfl (Imp.consLe rfl (is_eq (y := (0 : Int)) (by first | rfl | omega | assumption)) (Imp.cons rfl (Imp.cons rfl Imp.nil))))))))) (OImp.os (OS.keepLe (OB.row_eq (by first | rfl | omega | assumption)) (OS.keep (OS.keep (OS.keep (OS.keep OS.nil)))))) ?_
    intro j v hj
    refine CW.seq ?_
    refine CW.seq ?_
    refine CW.region ?_
    refine WP.s .n (O.mv rfl) ?_
    refine WP.s .n (O.mv rfl) ?_
    refine WP.s .n (O.le rfl rfl) ?_
    refine WP.nil ?_
    refine QE.next ?_
    refine CW.condD rfl (fun h_t25 => ?_) (fun h_t25 => ?_)
    · refine CW.skip ?_
      refine QE.next ?_
      refine CW.seq ?_
      refine CW.block ?_
      refine CW.seq ?_
      have hi2 : i < b.length := by omega
      refine CW.draw (Γ := [.fr ((kSl (kSl kZ)).is b), .fr ((kInt .i64).is (i : Int)), .fr (VP.pim (kSl kZ) (b.getD i [])), .fr ((kSl kZ).is (b.getD i [])), .fr ((kSl (kSl kZ)).is b), .fr ((kInt .i64).is (j : Int)), .fr (VP.pim (kSl kZ) (b.getD j [])), .fr ((kSl kZ).is (b.getD j [])), .fr (VP.tup [kC.is (uE (gram b) 0 i j), (kInt .i64).is 0]), .fr (VP.tup [kC.is (uE (gram b) 0 i j), (kInt .i64).is 0]), .fr (kC.is (uE (gram b) 0 i j)), .lt ((kInt .i64).is 0), .al (fun b => OB.box b 31 kC 0)]) (lates := [false, false, false, false, false, false, false, false, false, false, false, true, false]) (by kernel_rfl) (Chk.of rfl (by kernel_rfl) rfl) (fun _ _ _ _ _ h => h) (fun q_ x_ h_ => ?_) (fun σ1 => ?_)
      · match q_, h_ with
        | 0, h_ => cases h_; exact Ob.f rfl .n fun N => (O.mv rfl)
        | 1, h_ => cases h_; exact Ob.f rfl .n fun N => (O.mv rfl)
        | 2, h_ => cases h_; exact Ob.f rfl .n fun N => (O.ix i rfl rfl Try.underlying67 ty27 rfl (v := (b.getD i [])) (gd [] (by first | omega | (simp only [gRow_len, gDs_len, gLs_len]; omega))))
        | 3, h_ => cases h_; exact Ob.f rfl .n fun N => (O.ldP rfl ty27)
        | 4, h_ => cases h_; exact Ob.f rfl .n fun N => (O.mv rfl)
        | 5, h_ => cases h_; exact Ob.f rfl .n fun N => (O.mv rfl)
        | 6, h_ => cases h_; exact Ob.f rfl .n fun N => (O.ix j rfl rfl Try.underlying67 ty27 rfl (v := (b.getD j [])) (gd [] (by first | omega | (simp only [gRow_len, gDs_len, gLs_len]; omega))))
        | 7, h_ => cases h_; exact Ob.f rfl .n fun N => (O.ldP rfl ty27)
        | 8, h_ => cases h_; exact Ob.f rfl .n fun N => (OpOk.le (O.fn fn175 (evs.c rfl (evs.c rfl evs.nil)) (c_mat_Dot n (b.getD i []) (b.getD j []) (by first | assumption | exact hb _ | omega) (by first | assumption | exact hb _ | omega) (by have := row_le hr hc i; omega))) (tup_le (tup_cons (is_eq (if_pos (by rw [hr i (by omega), hr j (by omega)]))) (tup_cons (is_eq (if_pos (by rw [hr i (by omega), hr j (by omega)]))) tup_nil))))
        | 9, h_ => cases h_; exact Ob.f rfl .n fun N => (O.mv rfl)
        | 10, h_ => cases h_; exact Ob.f rfl .n fun N => (O.ext rfl rfl)
        | 11, h_ => cases h_; exact Ob.l rfl .n (OV.ext rfl rfl)
        | 12, h_ => cases h_; exact Ob.a rfl z31_C
        | n_ + 13, h_ => simp at h_
      refine WP.t .n (O.stW (l := kC) (u := uE (gram b) 0 i j) 0 rfl rfl rfl ty31 rfl (VP.le_refl _)) ?_
      refine WP.s .n (O.asg rfl) ?_
      refine WP.nil ?_
      refine QE.next ?_
      refine CW.seq ?_
      refine CW.seq ?_
      refine CW.region ?_
      refine WP.s .n (O.asg rfl) ?_
      refine WP.nil ?_
      refine QE.next ?_
      refine CW.block ?_
      refine CW.loop2 (fun (k : Nat) (p : Nat) => k ≤ j) (fun (k : Nat) (p : Nat) => [(0, (kSl (kSl kZ)).is b), (2, VP.ex (.pointer (some ⟨b1, 0, none⟩))), (3, kBool.is false), (4, VP.ex (.pointer (some ⟨b3, 0, none⟩))), (5, (kInt .i64).is (i : Int)), (6, VP.ex v), (7, (kInt .i64).is (j : Int)), (8, VP.ex (.pointer (some ⟨p, 0, none⟩))), (10, (kInt .i64).is (k : Int)), (16, (kInt .i64).is (b.length : Int)), (17, (kInt .i64).is (i : Int))]) (fun (k : Nat) (p : Nat) => [OB.box p 31 kC (uE (gram b) k i j), OB.row v 31 kC (gRow (gram b) i j), OB.row vL 27 (kSl kC) (gLs (gram b) i), OB.box b3 93 (kPair kVal kVal) (vD, vL), OB.row vD 31 kC (gDs (gram b) i), OB.box b1 93 (kPair (kSl kC) (kSl (kSl kC))) ([], [])]) (fun (k : Nat) (p : Nat) => j - k) 0 (σ1 12) (by omega) (Imp.cons rfl (Imp.cons rfl (Imp.cons rfl (Imp.cons rfl (Imp.cons rfl (Imp.cons rfl (Imp.cons rfl (Imp.cons rfl (Imp.consLe rfl (is_eq (y := (0 : Int)) (by first | rfl | omega | assumption)) (Imp.cons rfl (Imp.cons rfl Imp.nil))))))))))) (OImp.refl _) ?_
      intro k p hk
      refine CW.seq ?_
      refine CW.seq ?_
      refine CW.region ?_
      refine WP.s .n (O.mv rfl) ?_
      refine WP.s .n (O.mv rfl) ?_
      refine WP.s .n (O.lt rfl rfl) ?_
      refine WP.nil ?_
      refine QE.next ?_
      refine CW.condD rfl (fun h_t42 => ?_) (fun h_t42 => ?_)
      · refine CW.skip ?_
        refine QE.next ?_
        refine CW.seq ?_
        refine CW.block ?_
        refine CW.seq ?_
        have hE := uE_Sz hs hz hP
        have hD := uD_Sz hs hz hP
        have hUk := hU k (by omega)
        refine CW.region ?_
        refine WP.s .n (O.mv rfl) ?_
        refine WP.s .n (O.asg rfl) ?_
        refine WP.nil ?_
        refine QE.next ?_
        refine CW.seq ?_
        refine CW.seq ?_
        refine CW.region ?_
        refine WP.s .n (O.mv rfl) ?_
        refine WP.s .n (O.mv rfl) ?_
        refine WP.s .n (O.lt rfl rfl) ?_
        refine WP.nil ?_
        refine QE.next ?_
        refine CW.condD rfl (fun h_t48 => ?_) (fun h_t48 => ?_)
        · refine CW.region ?_
          refine WP.s .n (O.fa rfl fld93_1 rfl) ?_
          refine WP.s .n (OpOk.le (O.ld (p := kVal.is vL) rfl (mem_at 3 rfl) (Lens.snd (Lens.id _)) ty67 rfl) (val_ex _)) ?_
          refine WP.s .n (O.mv rfl) ?_
          refine WP.s .n (O.ixR (k := (kSl kC)) (xs := (gLs (gram b) i)) (n := (j : Int)) j rfl rfl (mem_at 2 rfl) Try.underlying67 ty27 rfl (by first | omega | (simp only [gRow_len, gDs_len, gLs_len]; omega))) ?_
          refine WP.s .n (O.ldR j rfl (mem_at 2 rfl) (Lens.id _) rfl (y := ((gLs (gram b) i).getD j [])) (gd [] (by first | omega | (simp only [gRow_len, gDs_len, gLs_len]; omega))) ty27 rfl) ?_
          refine WP.s .n (O.asg rfl) ?_
          refine WP.nil ?_
          refine QE.next ?_
          refine CW.seq ?_
          refine CW.draw (Γ := [.fr (VP.ex (.pointer (some ⟨b3, 0, none⟩))), .fr (VP.ex vD), .fr ((kInt .i64).is (k : Int)), .fr ((kInt .i64).is ((k : Int) + 1)), .fr (VP.pel vD ((((k : Int) + 1)).toNat * 2)), .fr (kC.is (uD (gram b) (k + 1))), .fr (kC.is (uE (gram b) k i j)), .fr (kC.is ((uD (gram b) (k + 1)) * (uE (gram b) k i j))), .fr (VP.ex v), .fr ((kInt .i64).is (k : Int)), .fr (VP.pel v (k * 2)), .fr (kC.is (uE (gram b) k i k)), .fr ((kSl kC).is ((gLs (gram b) i).getD j [])), .fr ((kInt .i64).is (k : Int)), .fr (VP.pim kC (uE (gram b) k j k)), .fr (kC.is (uE (gram b) k j k)), .fr (kC.is ((uE (gram b) k i k) * (uE (gram b) k j k))), .fr (kC.is (((uD (gram b) (k + 1)) * (uE (gram b) k i j)) - ((uE (gram b) k i k) * (uE (gram b) k j k))))]) (lates := [false, false, false, false, false, false, false, false, false, false, false, false, false, false, false, false, false, false]) (by kernel_rfl) (Chk.of rfl (by kernel_rfl) rfl) (fun _ _ _ _ _ h => h) (fun q_ x_ h_ => ?_) (fun σ2 => ?_)
          · match q_, h_ with
            | 0, h_ => cases h_; exact Ob.f rfl .n fun N => (O.fa rfl fld93_0 rfl)
            | 1, h_ => cases h_; exact Ob.f rfl .n fun N => (OpOk.le (O.ld (p := kVal.is vD) rfl (mem_app N (mem_at 3 rfl)) (Lens.fst (Lens.id _)) ty27 rfl) (val_ex _))
            | 2, h_ => cases h_; exact Ob.f rfl .n fun N => (O.mv rfl)
            | 3, h_ => cases h_; exact Ob.f rfl .n fun N => (O.add rfl rfl (c := ((k : Int) + 1)) (w64 (by omega)))
            | 4, h_ => cases h_; exact Ob.f rfl .n fun N => (O.ixR (k := kC) (xs := (gDs (gram b) i)) (n := ((k : Int) + 1)) ((((k : Int) + 1)).toNat) rfl rfl (mem_app N (mem_at 4 rfl)) Try.underlying27 ty31 (by omega) (by first | omega | (simp only [gRow_len, gDs_len, gLs_len]; omega)))
            | 5, h_ => cases h_; exact Ob.f rfl .n fun N => (O.ldR (k := kC) (xs := (gDs (gram b) i)) ((((k : Int) + 1)).toNat) rfl (mem_app N (mem_at 4 rfl)) (Lens.id _) (ho := rfl) (y := (uD (gram b) (k + 1))) (gDs_at (by omega)) ty31 rfl)
            | 6, h_ => cases h_; exact Ob.f rfl .n fun N => (O.ld rfl (mem_app N (mem_at 0 rfl)) (Lens.id _) ty31 rfl)
            | 7, h_ => cases h_; exact Ob.f rfl .n fun N => (O.fn fn76 (evs.l rfl (kC_Z (by first | assumption | exact (hE k (by omega) i j (by omega) (by omega)).sm (by omega) | exact (hE k (by omega) k k (by omega) (by omega)).sm (by omega) | exact (hE k (by omega) i k (by omega) (by omega)).sm (by omega) | exact (hE k (by omega) j k (by omega) (by omega)).sm (by omega) | exact (hE i (by omega) i i (by omega) (by omega)).sm (by omega) | exact (hD k (by omega)).sm (by omega) | exact (((hE k (by omega) k k (by omega) (by omega)).mul (hE k (by omega) i j (by omega) (by omega))).sub ((hE k (by omega) i k (by omega) (by omega)).mul (hE k (by omega) j k (by omega) (by omega)))).sm (by omega) | exact ((hE k (by omega) k k (by omega) (by omega)).mul (hE k (by omega) i j (by omega) (by omega))).sm (by omega) | exact ((hE k (by omega) i k (by omega) (by omega)).mul (hE k (by omega) j k (by omega) (by omega))).sm (by omega))) (evs.l rfl (kC_Z (by first | assumption | exact (hE k (by omega) i j (by omega) (by omega)).sm (by omega) | exact (hE k (by omega) k k (by omega) (by omega)).sm (by omega) | exact (hE k (by omega) i k (by omega) (by omega)).sm (by omega) | exact (hE k (by omega) j k (by omega) (by omega)).sm (by omega) | exact (hE i (by omega) i i (by omega) (by omega)).sm (by omega) | exact (hD k (by omega)).sm (by omega) | exact (((hE k (by omega) k k (by omega) (by omega)).mul (hE k (by omega) i j (by omega) (by omega))).sub ((hE k (by omega) i k (by omega) (by omega)).mul (hE k (by omega) j k (by omega) (by omega)))).sm (by omega) | exact ((hE k (by omega) k k (by omega) (by omega)).mul (hE k (by omega) i j (by omega) (by omega))).sm (by omega) | exact ((hE k (by omega) i k (by omega) (by omega)).mul (hE k (by omega) j k (by omega) (by omega))).sm (by omega))) evs.nil)) (c_zint_Mul (uD (gram b) (k + 1)) (uE (gram b) k i j)))
            | 8, h_ => cases h_; exact Ob.f rfl .n fun N => (O.mv rfl)
            | 9, h_ => cases h_; exact Ob.f rfl .n fun N => (O.mv rfl)
            | 10, h_ => cases h_; exact Ob.f rfl .n fun N => (O.ixR (k := kC) (xs := (gRow (gram b) i j)) (n := (k : Int)) k rfl rfl (mem_app N (mem_at 1 rfl)) Try.underlying27 ty31 rfl (by first | omega | (simp only [gRow_len, gDs_len, gLs_len]; omega)))
            | 11, h_ => cases h_; exact Ob.f rfl .n fun N => (O.ldR (k := kC) (xs := (gRow (gram b) i j)) k rfl (mem_app N (mem_at 1 rfl)) (Lens.id _) (ho := rfl) (y := (uE (gram b) k i k)) (gRow_at (by omega)) ty31 rfl)
            | 12, h_ => cases h_; exact Ob.f rfl .n fun N => (O.mv rfl)
            | 13, h_ => cases h_; exact Ob.f rfl .n fun N => (O.mv rfl)
            | 14, h_ => cases h_; exact Ob.f rfl .n fun N => (O.ix k rfl rfl Try.underlying27 ty31 rfl (v := (uE (gram b) k j k)) (gLs_at (by omega) (by omega)))
            | 15, h_ => cases h_; exact Ob.f rfl .n fun N => (O.ldP rfl ty31)
            | 16, h_ => cases h_; exact Ob.f rfl .n fun N => (O.fn fn76 (evs.l rfl (kC_Z (by first | assumption | exact (hE k (by omega) i j (by omega) (by omega)).sm (by omega) | exact (hE k (by omega) k k (by omega) (by omega)).sm (by omega) | exact (hE k (by omega) i k (by omega) (by omega)).sm (by omega) | exact (hE k (by omega) j k (by omega) (by omega)).sm (by omega) | exact (hE i (by omega) i i (by omega) (by omega)).sm (by omega) | exact (hD k (by omega)).sm (by omega) | exact (((hE k (by omega) k k (by omega) (by omega)).mul (hE k (by omega) i j (by omega) (by omega))).sub ((hE k (by omega) i k (by omega) (by omega)).mul (hE k (by omega) j k (by omega) (by omega)))).sm (by omega) | exact ((hE k (by omega) k k (by omega) (by omega)).mul (hE k (by omega) i j (by omega) (by omega))).sm (by omega) | exact ((hE k (by omega) i k (by omega) (by omega)).mul (hE k (by omega) j k (by omega) (by omega))).sm (by omega))) (evs.l rfl (kC_Z (by first | assumption | exact (hE k (by omega) i j (by omega) (by omega)).sm (by omega) | exact (hE k (by omega) k k (by omega) (by omega)).sm (by omega) | exact (hE k (by omega) i k (by omega) (by omega)).sm (by omega) | exact (hE k (by omega) j k (by omega) (by omega)).sm (by omega) | exact (hE i (by omega) i i (by omega) (by omega)).sm (by omega) | exact (hD k (by omega)).sm (by omega) | exact (((hE k (by omega) k k (by omega) (by omega)).mul (hE k (by omega) i j (by omega) (by omega))).sub ((hE k (by omega) i k (by omega) (by omega)).mul (hE k (by omega) j k (by omega) (by omega)))).sm (by omega) | exact ((hE k (by omega) k k (by omega) (by omega)).mul (hE k (by omega) i j (by omega) (by omega))).sm (by omega) | exact ((hE k (by omega) i k (by omega) (by omega)).mul (hE k (by omega) j k (by omega) (by omega))).sm (by omega))) evs.nil)) (c_zint_Mul (uE (gram b) k i k) (uE (gram b) k j k)))
            | 17, h_ => cases h_; exact Ob.f rfl .n fun N => (O.fn fn157 (evs.l rfl (kC_Z (by first | assumption | exact (hE k (by omega) i j (by omega) (by omega)).sm (by omega) | exact (hE k (by omega) k k (by omega) (by omega)).sm (by omega) | exact (hE k (by omega) i k (by omega) (by omega)).sm (by omega) | exact (hE k (by omega) j k (by omega) (by omega)).sm (by omega) | exact (hE i (by omega) i i (by omega) (by omega)).sm (by omega) | exact (hD k (by omega)).sm (by omega) | exact (((hE k (by omega) k k (by omega) (by omega)).mul (hE k (by omega) i j (by omega) (by omega))).sub ((hE k (by omega) i k (by omega) (by omega)).mul (hE k (by omega) j k (by omega) (by omega)))).sm (by omega) | exact ((hE k (by omega) k k (by omega) (by omega)).mul (hE k (by omega) i j (by omega) (by omega))).sm (by omega) | exact ((hE k (by omega) i k (by omega) (by omega)).mul (hE k (by omega) j k (by omega) (by omega))).sm (by omega))) (evs.l rfl (kC_Z (by first | assumption | exact (hE k (by omega) i j (by omega) (by omega)).sm (by omega) | exact (hE k (by omega) k k (by omega) (by omega)).sm (by omega) | exact (hE k (by omega) i k (by omega) (by omega)).sm (by omega) | exact (hE k (by omega) j k (by omega) (by omega)).sm (by omega) | exact (hE i (by omega) i i (by omega) (by omega)).sm (by omega) | exact (hD k (by omega)).sm (by omega) | exact (((hE k (by omega) k k (by omega) (by omega)).mul (hE k (by omega) i j (by omega) (by omega))).sub ((hE k (by omega) i k (by omega) (by omega)).mul (hE k (by omega) j k (by omega) (by omega)))).sm (by omega) | exact ((hE k (by omega) k k (by omega) (by omega)).mul (hE k (by omega) i j (by omega) (by omega))).sm (by omega) | exact ((hE k (by omega) i k (by omega) (by omega)).mul (hE k (by omega) j k (by omega) (by omega))).sm (by omega))) evs.nil)) (c_zint_Sub ((uD (gram b) (k + 1)) * (uE (gram b) k i j)) ((uE (gram b) k i k) * (uE (gram b) k j k))))
            | n_ + 18, h_ => simp at h_
          refine WP.t .n (O.stW (l := kC) (u := ((uD (gram b) (k + 1)) * (uE (gram b) k i j)) - ((uE (gram b) k i k) * (uE (gram b) k j k))) 0 rfl rfl rfl ty31 rfl (VP.le_refl _)) ?_
          refine WP.nil ?_
          refine QE.next ?_
          refine CW.draw (Γ := [.fr (kC.is (((uD (gram b) (k + 1)) * (uE (gram b) k i j)) - ((uE (gram b) k i k) * (uE (gram b) k j k)))), .fr (VP.ex (.pointer (some ⟨b3, 0, none⟩))), .fr (VP.ex vD), .fr ((kInt .i64).is (k : Int)), .fr (VP.pel vD (k * 2)), .fr (kC.is (uD (gram b) k)), .fr (VP.tup [kC.is ((((uD (gram b) (k + 1)) * (uE (gram b) k i j)) - ((uE (gram b) k i k) * (uE (gram b) k j k))).fdiv (uD (gram b) k)), kC.is (if (uD (gram b) k) = 0 then 0 else (((uD (gram b) (k + 1)) * (uE (gram b) k i j)) - ((uE (gram b) k i k) * (uE (gram b) k j k))).fmod (uD (gram b) k)), (kInt .i64).is (if (uD (gram b) k) = 0 then 11 else 0)]), .fr (VP.tup [kC.is ((((uD (gram b) (k + 1)) * (uE (gram b) k i j)) - ((uE (gram b) k i k) * (uE (gram b) k j k))).fdiv (uD (gram b) k)), kC.is (if (uD (gram b) k) = 0 then 0 else (((uD (gram b) (k + 1)) * (uE (gram b) k i j)) - ((uE (gram b) k i k) * (uE (gram b) k j k))).fmod (uD (gram b) k)), (kInt .i64).is (if (uD (gram b) k) = 0 then 11 else 0)]), .fr (kC.is ((((uD (gram b) (k + 1)) * (uE (gram b) k i j)) - ((uE (gram b) k i k) * (uE (gram b) k j k))).fdiv (uD (gram b) k))), .lt (kC.is (if (uD (gram b) k) = 0 then 0 else (((uD (gram b) (k + 1)) * (uE (gram b) k i j)) - ((uE (gram b) k i k) * (uE (gram b) k j k))).fmod (uD (gram b) k))), .lt ((kInt .i64).is (if (uD (gram b) k) = 0 then 11 else 0))]) (lates := [false, false, false, false, false, false, false, false, false, true, true]) (by kernel_rfl) (Chk.of rfl (by kernel_rfl) rfl) (fun _ _ _ _ _ h => h) (fun q_ x_ h_ => ?_) (fun σ3 => ?_)
          · match q_, h_ with
            | 0, h_ => cases h_; exact Ob.f rfl .n fun N => (O.ld rfl (mem_app N (mem_at 0 rfl)) (Lens.id _) ty31 rfl)
            | 1, h_ => cases h_; exact Ob.f rfl .n fun N => (O.fa rfl fld93_0 rfl)
            | 2, h_ => cases h_; exact Ob.f rfl .n fun N => (OpOk.le (O.ld (p := kVal.is vD) rfl (mem_app N (mem_at 3 rfl)) (Lens.fst (Lens.id _)) ty27 rfl) (val_ex _))
            | 3, h_ => cases h_; exact Ob.f rfl .n fun N => (O.mv rfl)
            | 4, h_ => cases h_; exact Ob.f rfl .n fun N => (O.ixR (k := kC) (xs := (gDs (gram b) i)) (n := (k : Int)) k rfl rfl (mem_app N (mem_at 4 rfl)) Try.underlying27 ty31 rfl (by first | omega | (simp only [gRow_len, gDs_len, gLs_len]; omega)))
            | 5, h_ => cases h_; exact Ob.f rfl .n fun N => (O.ldR (k := kC) (xs := (gDs (gram b) i)) k rfl (mem_app N (mem_at 4 rfl)) (Lens.id _) (ho := rfl) (y := (uD (gram b) k)) (gDs_at (by omega)) ty31 rfl)
            | 6, h_ => cases h_; exact Ob.f rfl .n fun N => (O.fn fn105 (evs.l rfl (kC_Z (by first | assumption | exact (hE k (by omega) i j (by omega) (by omega)).sm (by omega) | exact (hE k (by omega) k k (by omega) (by omega)).sm (by omega) | exact (hE k (by omega) i k (by omega) (by omega)).sm (by omega) | exact (hE k (by omega) j k (by omega) (by omega)).sm (by omega) | exact (hE i (by omega) i i (by omega) (by omega)).sm (by omega) | exact (hD k (by omega)).sm (by omega) | exact (((hE k (by omega) k k (by omega) (by omega)).mul (hE k (by omega) i j (by omega) (by omega))).sub ((hE k (by omega) i k (by omega) (by omega)).mul (hE k (by omega) j k (by omega) (by omega)))).sm (by omega) | exact ((hE k (by omega) k k (by omega) (by omega)).mul (hE k (by omega) i j (by omega) (by omega))).sm (by omega) | exact ((hE k (by omega) i k (by omega) (by omega)).mul (hE k (by omega) j k (by omega) (by omega))).sm (by omega))) (evs.l rfl (kC_Z (by first | assumption | exact (hE k (by omega) i j (by omega) (by omega)).sm (by omega) | exact (hE k (by omega) k k (by omega) (by omega)).sm (by omega) | exact (hE k (by omega) i k (by omega) (by omega)).sm (by omega) | exact (hE k (by omega) j k (by omega) (by omega)).sm (by omega) | exact (hE i (by omega) i i (by omega) (by omega)).sm (by omega) | exact (hD k (by omega)).sm (by omega) | exact (((hE k (by omega) k k (by omega) (by omega)).mul (hE k (by omega) i j (by omega) (by omega))).sub ((hE k (by omega) i k (by omega) (by omega)).mul (hE k (by omega) j k (by omega) (by omega)))).sm (by omega) | exact ((hE k (by omega) k k (by omega) (by omega)).mul (hE k (by omega) i j (by omega) (by omega))).sm (by omega) | exact ((hE k (by omega) i k (by omega) (by omega)).mul (hE k (by omega) j k (by omega) (by omega))).sm (by omega))) evs.nil)) (c_zint_Floor (((uD (gram b) (k + 1)) * (uE (gram b) k i j)) - ((uE (gram b) k i k) * (uE (gram b) k j k))) (uD (gram b) k)))
            | 7, h_ => cases h_; exact Ob.f rfl .n fun N => (O.mv rfl)
            | 8, h_ => cases h_; exact Ob.f rfl .n fun N => (O.ext rfl rfl)
            | 9, h_ => cases h_; exact Ob.l rfl .n (OV.ext rfl rfl)
            | 10, h_ => cases h_; exact Ob.l rfl .n (OV.ext rfl rfl)
            | n_ + 11, h_ => simp at h_
          refine WP.t .n (O.stW (l := kC) (u := (((uD (gram b) (k + 1)) * (uE (gram b) k i j)) - ((uE (gram b) k i k) * (uE (gram b) k j k))).fdiv (uD (gram b) k)) 0 rfl rfl rfl ty31 rfl (VP.le_refl _)) ?_
          refine WP.nil ?_
          refine QE.blkN ?_
          refine QE.next ?_
          refine CW.region ?_
          refine WP.s .n (O.mv rfl) ?_
          refine WP.s .n (O.add rfl rfl (c := ((k : Int) + 1)) (w64 (by omega))) ?_
          refine WP.s .n (O.asg rfl) ?_
          refine WP.nil ?_
          refine ST.obtold 0 rfl (OB.box_eq (y := (uE (gram b) (k + 1) i j)) (uE_succ _ k i j).symm) ?_
          exact QE.round2 (k + 1) p (by omega) (by omega) (Imp.cons rfl (Imp.cons rfl (Imp.cons rfl (Imp.cons rfl (Imp.cons rfl (Imp.cons rfl (Imp.cons rfl (Imp.cons rfl (Imp.consLe rfl (is_eq (y := (((k + 1) : Nat) : Int)) (by first | rfl | omega | assumption)) (Imp.cons rfl (Imp.cons rfl Imp.nil))))))))))) (OImp.refl _)
        · refine CW.skip ?_
          refine QE.next ?_
          refine CW.seq ?_
          refine CW.draw (Γ := [.fr (VP.ex (.pointer (some ⟨b3, 0, none⟩))), .fr (VP.ex vD), .fr ((kInt .i64).is (k : Int)), .fr ((kInt .i64).is ((k : Int) + 1)), .fr (VP.pel vD ((((k : Int) + 1)).toNat * 2)), .fr (kC.is (uD (gram b) (k + 1))), .fr (kC.is (uE (gram b) k i j)), .fr (kC.is ((uD (gram b) (k + 1)) * (uE (gram b) k i j))), .fr (VP.ex v), .fr ((kInt .i64).is (k : Int)), .fr (VP.pel v (k * 2)), .fr (kC.is (uE (gram b) k i k)), .fr (VP.ex v), .fr ((kInt .i64).is (k : Int)), .fr (VP.pel v (k * 2)), .fr (kC.is (uE (gram b) k j k)), .fr (kC.is ((uE (gram b) k i k) * (uE (gram b) k j k))), .fr (kC.is (((uD (gram b) (k + 1)) * (uE (gram b) k i j)) - ((uE (gram b) k i k) * (uE (gram b) k j k))))]) (lates := [false, false, false, false, false, false, false, false, false, false, false, false, false, false, false, false, false, false]) (by kernel_rfl) (Chk.of rfl (by kernel_rfl) rfl) (fun _ _ _ _ _ h => h) (fun q_ x_ h_ => ?_) (fun σ4 => ?_)
          · match q_, h_ with
            | 0, h_ => cases h_; exact Ob.f rfl .n fun N => (O.fa rfl fld93_0 rfl)
            | 1, h_ => cases h_; exact Ob.f rfl .n fun N => (OpOk.le (O.ld (p := kVal.is vD) rfl (mem_app N (mem_at 3 rfl)) (Lens.fst (Lens.id _)) ty27 rfl) (val_ex _))
            | 2, h_ => cases h_; exact Ob.f rfl .n fun N => (O.mv rfl)
            | 3, h_ => cases h_; exact Ob.f rfl .n fun N => (O.add rfl rfl (c := ((k : Int) + 1)) (w64 (by omega)))
            | 4, h_ => cases h_; exact Ob.f rfl .n fun N => (O.ixR (k := kC) (xs := (gDs (gram b) i)) (n := ((k : Int) + 1)) ((((k : Int) + 1)).toNat) rfl rfl (mem_app N (mem_at 4 rfl)) Try.underlying27 ty31 (by omega) (by first | omega | (simp only [gRow_len, gDs_len, gLs_len]; omega)))
            | 5, h_ => cases h_; exact Ob.f rfl .n fun N => (O.ldR (k := kC) (xs := (gDs (gram b) i)) ((((k : Int) + 1)).toNat) rfl (mem_app N (mem_at 4 rfl)) (Lens.id _) (ho := rfl) (y := (uD (gram b) (k + 1))) (gDs_at (by omega)) ty31 rfl)
            | 6, h_ => cases h_; exact Ob.f rfl .n fun N => (O.ld rfl (mem_app N (mem_at 0 rfl)) (Lens.id _) ty31 rfl)
            | 7, h_ => cases h_; exact Ob.f rfl .n fun N => (O.fn fn76 (evs.l rfl (kC_Z (by first | assumption | exact (hE k (by omega) i j (by omega) (by omega)).sm (by omega) | exact (hE k (by omega) k k (by omega) (by omega)).sm (by omega) | exact (hE k (by omega) i k (by omega) (by omega)).sm (by omega) | exact (hE k (by omega) j k (by omega) (by omega)).sm (by omega) | exact (hE i (by omega) i i (by omega) (by omega)).sm (by omega) | exact (hD k (by omega)).sm (by omega) | exact (((hE k (by omega) k k (by omega) (by omega)).mul (hE k (by omega) i j (by omega) (by omega))).sub ((hE k (by omega) i k (by omega) (by omega)).mul (hE k (by omega) j k (by omega) (by omega)))).sm (by omega) | exact ((hE k (by omega) k k (by omega) (by omega)).mul (hE k (by omega) i j (by omega) (by omega))).sm (by omega) | exact ((hE k (by omega) i k (by omega) (by omega)).mul (hE k (by omega) j k (by omega) (by omega))).sm (by omega))) (evs.l rfl (kC_Z (by first | assumption | exact (hE k (by omega) i j (by omega) (by omega)).sm (by omega) | exact (hE k (by omega) k k (by omega) (by omega)).sm (by omega) | exact (hE k (by omega) i k (by omega) (by omega)).sm (by omega) | exact (hE k (by omega) j k (by omega) (by omega)).sm (by omega) | exact (hE i (by omega) i i (by omega) (by omega)).sm (by omega) | exact (hD k (by omega)).sm (by omega) | exact (((hE k (by omega) k k (by omega) (by omega)).mul (hE k (by omega) i j (by omega) (by omega))).sub ((hE k (by omega) i k (by omega) (by omega)).mul (hE k (by omega) j k (by omega) (by omega)))).sm (by omega) | exact ((hE k (by omega) k k (by omega) (by omega)).mul (hE k (by omega) i j (by omega) (by omega))).sm (by omega) | exact ((hE k (by omega) i k (by omega) (by omega)).mul (hE k (by omega) j k (by omega) (by omega))).sm (by omega))) evs.nil)) (c_zint_Mul (uD (gram b) (k + 1)) (uE (gram b) k i j)))
            | 8, h_ => cases h_; exact Ob.f rfl .n fun N => (O.mv rfl)
            | 9, h_ => cases h_; exact Ob.f rfl .n fun N => (O.mv rfl)
            | 10, h_ => cases h_; exact Ob.f rfl .n fun N => (O.ixR (k := kC) (xs := (gRow (gram b) i j)) (n := (k : Int)) k rfl rfl (mem_app N (mem_at 1 rfl)) Try.underlying27 ty31 rfl (by first | omega | (simp only [gRow_len, gDs_len, gLs_len]; omega)))
            | 11, h_ => cases h_; exact Ob.f rfl .n fun N => (O.ldR (k := kC) (xs := (gRow (gram b) i j)) k rfl (mem_app N (mem_at 1 rfl)) (Lens.id _) (ho := rfl) (y := (uE (gram b) k i k)) (gRow_at (by omega)) ty31 rfl)
            | 12, h_ => cases h_; exact Ob.f rfl .n fun N => (O.mv rfl)
            | 13, h_ => cases h_; exact Ob.f rfl .n fun N => (O.mv rfl)
            | 14, h_ => cases h_; exact Ob.f rfl .n fun N => (O.ixR (k := kC) (xs := (gRow (gram b) i j)) (n := (k : Int)) k rfl rfl (mem_app N (mem_at 1 rfl)) Try.underlying27 ty31 rfl (by first | omega | (simp only [gRow_len, gDs_len, gLs_len]; omega)))
            | 15, h_ => cases h_; exact Ob.f rfl .n fun N => (O.ldR (k := kC) (xs := (gRow (gram b) i j)) k rfl (mem_app N (mem_at 1 rfl)) (Lens.id _) (ho := rfl) (y := (uE (gram b) k j k)) (by rw [show j = i by omega]; exact gRow_at (by omega)) ty31 rfl)
            | 16, h_ => cases h_; exact Ob.f rfl .n fun N => (O.fn fn76 (evs.l rfl (kC_Z (by first | assumption | exact (hE k (by omega) i j (by omega) (by omega)).sm (by omega) | exact (hE k (by omega) k k (by omega) (by omega)).sm (by omega) | exact (hE k (by omega) i k (by omega) (by omega)).sm (by omega) | exact (hE k (by omega) j k (by omega) (by omega)).sm (by omega) | exact (hE i (by omega) i i (by omega) (by omega)).sm (by omega) | exact (hD k (by omega)).sm (by omega) | exact (((hE k (by omega) k k (by omega) (by omega)).mul (hE k (by omega) i j (by omega) (by omega))).sub ((hE k (by omega) i k (by omega) (by omega)).mul (hE k (by omega) j k (by omega) (by omega)))).sm (by omega) | exact ((hE k (by omega) k k (by omega) (by omega)).mul (hE k (by omega) i j (by omega) (by omega))).sm (by omega) | exact ((hE k (by omega) i k (by omega) (by omega)).mul (hE k (by omega) j k (by omega) (by omega))).sm (by omega))) (evs.l rfl (kC_Z (by first | assumption | exact (hE k (by omega) i j (by omega) (by omega)).sm (by omega) | exact (hE k (by omega) k k (by omega) (by omega)).sm (by omega) | exact (hE k (by omega) i k (by omega) (by omega)).sm (by omega) | exact (hE k (by omega) j k (by omega) (by omega)).sm (by omega) | exact (hE i (by omega) i i (by omega) (by omega)).sm (by omega) | exact (hD k (by omega)).sm (by omega) | exact (((hE k (by omega) k k (by omega) (by omega)).mul (hE k (by omega) i j (by omega) (by omega))).sub ((hE k (by omega) i k (by omega) (by omega)).mul (hE k (by omega) j k (by omega) (by omega)))).sm (by omega) | exact ((hE k (by omega) k k (by omega) (by omega)).mul (hE k (by omega) i j (by omega) (by omega))).sm (by omega) | exact ((hE k (by omega) i k (by omega) (by omega)).mul (hE k (by omega) j k (by omega) (by omega))).sm (by omega))) evs.nil)) (c_zint_Mul (uE (gram b) k i k) (uE (gram b) k j k)))
            | 17, h_ => cases h_; exact Ob.f rfl .n fun N => (O.fn fn157 (evs.l rfl (kC_Z (by first | assumption | exact (hE k (by omega) i j (by omega) (by omega)).sm (by omega) | exact (hE k (by omega) k k (by omega) (by omega)).sm (by omega) | exact (hE k (by omega) i k (by omega) (by omega)).sm (by omega) | exact (hE k (by omega) j k (by omega) (by omega)).sm (by omega) | exact (hE i (by omega) i i (by omega) (by omega)).sm (by omega) | exact (hD k (by omega)).sm (by omega) | exact (((hE k (by omega) k k (by omega) (by omega)).mul (hE k (by omega) i j (by omega) (by omega))).sub ((hE k (by omega) i k (by omega) (by omega)).mul (hE k (by omega) j k (by omega) (by omega)))).sm (by omega) | exact ((hE k (by omega) k k (by omega) (by omega)).mul (hE k (by omega) i j (by omega) (by omega))).sm (by omega) | exact ((hE k (by omega) i k (by omega) (by omega)).mul (hE k (by omega) j k (by omega) (by omega))).sm (by omega))) (evs.l rfl (kC_Z (by first | assumption | exact (hE k (by omega) i j (by omega) (by omega)).sm (by omega) | exact (hE k (by omega) k k (by omega) (by omega)).sm (by omega) | exact (hE k (by omega) i k (by omega) (by omega)).sm (by omega) | exact (hE k (by omega) j k (by omega) (by omega)).sm (by omega) | exact (hE i (by omega) i i (by omega) (by omega)).sm (by omega) | exact (hD k (by omega)).sm (by omega) | exact (((hE k (by omega) k k (by omega) (by omega)).mul (hE k (by omega) i j (by omega) (by omega))).sub ((hE k (by omega) i k (by omega) (by omega)).mul (hE k (by omega) j k (by omega) (by omega)))).sm (by omega) | exact ((hE k (by omega) k k (by omega) (by omega)).mul (hE k (by omega) i j (by omega) (by omega))).sm (by omega) | exact ((hE k (by omega) i k (by omega) (by omega)).mul (hE k (by omega) j k (by omega) (by omega))).sm (by omega))) evs.nil)) (c_zint_Sub ((uD (gram b) (k + 1)) * (uE (gram b) k i j)) ((uE (gram b) k i k) * (uE (gram b) k j k))))
            | n_ + 18, h_ => simp at h_
          refine WP.t .n (O.stW (l := kC) (u := ((uD (gram b) (k + 1)) * (uE (gram b) k i j)) - ((uE (gram b) k i k) * (uE (gram b) k j k))) 0 rfl rfl rfl ty31 rfl (VP.le_refl _)) ?_
          refine WP.nil ?_
          refine QE.next ?_
          refine CW.draw (Γ := [.fr (kC.is (((uD (gram b) (k + 1)) * (uE (gram b) k i j)) - ((uE (gram b) k i k) * (uE (gram b) k j k)))), .fr (VP.ex (.pointer (some ⟨b3, 0, none⟩))), .fr (VP.ex vD), .fr ((kInt .i64).is (k : Int)), .fr (VP.pel vD (k * 2)), .fr (kC.is (uD (gram b) k)), .fr (VP.tup [kC.is ((((uD (gram b) (k + 1)) * (uE (gram b) k i j)) - ((uE (gram b) k i k) * (uE (gram b) k j k))).fdiv (uD (gram b) k)), kC.is (if (uD (gram b) k) = 0 then 0 else (((uD (gram b) (k + 1)) * (uE (gram b) k i j)) - ((uE (gram b) k i k) * (uE (gram b) k j k))).fmod (uD (gram b) k)), (kInt .i64).is (if (uD (gram b) k) = 0 then 11 else 0)]), .fr (VP.tup [kC.is ((((uD (gram b) (k + 1)) * (uE (gram b) k i j)) - ((uE (gram b) k i k) * (uE (gram b) k j k))).fdiv (uD (gram b) k)), kC.is (if (uD (gram b) k) = 0 then 0 else (((uD (gram b) (k + 1)) * (uE (gram b) k i j)) - ((uE (gram b) k i k) * (uE (gram b) k j k))).fmod (uD (gram b) k)), (kInt .i64).is (if (uD (gram b) k) = 0 then 11 else 0)]), .fr (kC.is ((((uD (gram b) (k + 1)) * (uE (gram b) k i j)) - ((uE (gram b) k i k) * (uE (gram b) k j k))).fdiv (uD (gram b) k))), .lt (kC.is (if (uD (gram b) k) = 0 then 0 else (((uD (gram b) (k + 1)) * (uE (gram b) k i j)) - ((uE (gram b) k i k) * (uE (gram b) k j k))).fmod (uD (gram b) k))), .lt ((kInt .i64).is (if (uD (gram b) k) = 0 then 11 else 0))]) (lates := [false, false, false, false, false, false, false, false, false, true, true]) (by kernel_rfl) (Chk.of rfl (by kernel_rfl) rfl) (fun _ _ _ _ _ h => h) (fun q_ x_ h_ => ?_) (fun σ5 => ?_)
          · match q_, h_ with
            | 0, h_ => cases h_; exact Ob.f rfl .n fun N => (O.ld rfl (mem_app N (mem_at 0 rfl)) (Lens.id _) ty31 rfl)
            | 1, h_ => cases h_; exact Ob.f rfl .n fun N => (O.fa rfl fld93_0 rfl)
            | 2, h_ => cases h_; exact Ob.f rfl .n fun N => (OpOk.le (O.ld (p := kVal.is vD) rfl (mem_app N (mem_at 3 rfl)) (Lens.fst (Lens.id _)) ty27 rfl) (val_ex _))
            | 3, h_ => cases h_; exact Ob.f rfl .n fun N => (O.mv rfl)
            | 4, h_ => cases h_; exact Ob.f rfl .n fun N => (O.ixR (k := kC) (xs := (gDs (gram b) i)) (n := (k : Int)) k rfl rfl (mem_app N (mem_at 4 rfl)) Try.underlying27 ty31 rfl (by first | omega | (simp only [gRow_len, gDs_len, gLs_len]; omega)))
            | 5, h_ => cases h_; exact Ob.f rfl .n fun N => (O.ldR (k := kC) (xs := (gDs (gram b) i)) k rfl (mem_app N (mem_at 4 rfl)) (Lens.id _) (ho := rfl) (y := (uD (gram b) k)) (gDs_at (by omega)) ty31 rfl)
            | 6, h_ => cases h_; exact Ob.f rfl .n fun N => (O.fn fn105 (evs.l rfl (kC_Z (by first | assumption | exact (hE k (by omega) i j (by omega) (by omega)).sm (by omega) | exact (hE k (by omega) k k (by omega) (by omega)).sm (by omega) | exact (hE k (by omega) i k (by omega) (by omega)).sm (by omega) | exact (hE k (by omega) j k (by omega) (by omega)).sm (by omega) | exact (hE i (by omega) i i (by omega) (by omega)).sm (by omega) | exact (hD k (by omega)).sm (by omega) | exact (((hE k (by omega) k k (by omega) (by omega)).mul (hE k (by omega) i j (by omega) (by omega))).sub ((hE k (by omega) i k (by omega) (by omega)).mul (hE k (by omega) j k (by omega) (by omega)))).sm (by omega) | exact ((hE k (by omega) k k (by omega) (by omega)).mul (hE k (by omega) i j (by omega) (by omega))).sm (by omega) | exact ((hE k (by omega) i k (by omega) (by omega)).mul (hE k (by omega) j k (by omega) (by omega))).sm (by omega))) (evs.l rfl (kC_Z (by first | assumption | exact (hE k (by omega) i j (by omega) (by omega)).sm (by omega) | exact (hE k (by omega) k k (by omega) (by omega)).sm (by omega) | exact (hE k (by omega) i k (by omega) (by omega)).sm (by omega) | exact (hE k (by omega) j k (by omega) (by omega)).sm (by omega) | exact (hE i (by omega) i i (by omega) (by omega)).sm (by omega) | exact (hD k (by omega)).sm (by omega) | exact (((hE k (by omega) k k (by omega) (by omega)).mul (hE k (by omega) i j (by omega) (by omega))).sub ((hE k (by omega) i k (by omega) (by omega)).mul (hE k (by omega) j k (by omega) (by omega)))).sm (by omega) | exact ((hE k (by omega) k k (by omega) (by omega)).mul (hE k (by omega) i j (by omega) (by omega))).sm (by omega) | exact ((hE k (by omega) i k (by omega) (by omega)).mul (hE k (by omega) j k (by omega) (by omega))).sm (by omega))) evs.nil)) (c_zint_Floor (((uD (gram b) (k + 1)) * (uE (gram b) k i j)) - ((uE (gram b) k i k) * (uE (gram b) k j k))) (uD (gram b) k)))
            | 7, h_ => cases h_; exact Ob.f rfl .n fun N => (O.mv rfl)
            | 8, h_ => cases h_; exact Ob.f rfl .n fun N => (O.ext rfl rfl)
            | 9, h_ => cases h_; exact Ob.l rfl .n (OV.ext rfl rfl)
            | 10, h_ => cases h_; exact Ob.l rfl .n (OV.ext rfl rfl)
            | n_ + 11, h_ => simp at h_
          refine WP.t .n (O.stW (l := kC) (u := (((uD (gram b) (k + 1)) * (uE (gram b) k i j)) - ((uE (gram b) k i k) * (uE (gram b) k j k))).fdiv (uD (gram b) k)) 0 rfl rfl rfl ty31 rfl (VP.le_refl _)) ?_
          refine WP.nil ?_
          refine QE.blkN ?_
          refine QE.next ?_
          refine CW.region ?_
          refine WP.s .n (O.mv rfl) ?_
          refine WP.s .n (O.add rfl rfl (c := ((k : Int) + 1)) (w64 (by omega))) ?_
          refine WP.s .n (O.asg rfl) ?_
          refine WP.nil ?_
          refine ST.obtold 0 rfl (OB.box_eq (y := (uE (gram b) (k + 1) i j)) (uE_succ _ k i j).symm) ?_
          exact QE.round2 (k + 1) p (by omega) (by omega) (Imp.cons rfl (Imp.cons rfl (Imp.cons rfl (Imp.cons rfl (Imp.cons rfl (Imp.cons rfl (Imp.cons rfl (Imp.cons rfl (Imp.consLe rfl (is_eq (y := (((k + 1) : Nat) : Int)) (by first | rfl | omega | assumption)) (Imp.cons rfl (Imp.cons rfl Imp.nil))))))))))) (OImp.refl _)
      · refine CW.exit ?_
        refine QE.thenE ?_
        refine QE.thenE ?_
        refine QE.blkH ?_
        refine QE.next ?_
        refine CW.region ?_
        refine WP.s .n (O.mv rfl) ?_
        refine WP.s .n (O.ld rfl (mem_at 0 rfl) (Lens.id _) ty31 rfl) ?_
        refine WP.s .n (O.bs Try.underlying27 el31_C (evl.c rfl evl.n) rfl (by decide)) ?_
        refine WP.ap 1 .n rfl rfl rfl (VP.le_refl _) Try.underlying27 el31_C (by simp only [gRow_len, gDs_len, gLs_len, List.length_cons, List.length_nil]; omega) fun v5 => ?_
        refine WP.s .n (O.asg rfl) ?_
        refine WP.nil ?_
        refine QE.blkN ?_
        refine QE.next ?_
        refine CW.region ?_
        refine WP.s .n (O.mv rfl) ?_
        refine WP.s .n (O.add rfl rfl (c := ((j : Int) + 1)) (w64 (by omega))) ?_
        refine WP.s .n (O.asg rfl) ?_
        refine WP.nil ?_
        refine ST.obtold 1 rfl (OB.row_eq (ys := (gRow (gram b) i (j + 1))) (by rw [show k = j by omega]; exact gRow_app (gram b) i j)) ?_
        exact QE.round2 (j + 1) v5 (by omega) (by omega) (Imp.cons rfl (Imp.cons rfl (Imp.cons rfl (Imp.cons rfl (Imp.cons rfl (Imp.cons rfl (Imp.consLe rfl (is_eq (y := (((j + 1) : Nat) : Int)) (by first | rfl | omega | assumption)) (Imp.cons rfl (Imp.cons rfl Imp.nil))))))))) (OImp.os (OS.skip (OS.keep (OS.keep (OS.keep (OS.keep (OS.keep OS.nil)))))))
    · refine CW.exit ?_
      refine QE.thenE ?_
      refine QE.thenE ?_
      refine QE.blkH ?_
      refine QE.next ?_
      refine CW.seq ?_
      refine CW.seq ?_
      refine ST.obtold 0 rfl (OB.row_eq (ys := (gRow (gram b) i (i + 1))) (by rw [show j = i + 1 by omega])) ?_
      have hE := uE_Sz hs hz hP
      have hUi := hU i (by omega)
      refine CW.region ?_
      refine WP.s .n (O.mv rfl) ?_
      refine WP.s .n (O.mv rfl) ?_
      refine WP.s .n (O.ixR (k := kC) (xs := (gRow (gram b) i (i + 1))) (n := (i : Int)) i rfl rfl (mem_at 0 rfl) Try.underlying27 ty31 rfl (by first | omega | (simp only [gRow_len, gDs_len, gLs_len]; omega))) ?_
      refine WP.s .n (O.ldR (k := kC) (xs := (gRow (gram b) i (i + 1))) i rfl (mem_at 0 rfl) (Lens.id _) (ho := rfl) (y := (uE (gram b) i i i)) (gRow_at (by omega)) ty31 rfl) ?_
      refine WP.s .n (O.fn fn80 (evs.l rfl (kC_Z (by first | assumption | exact (hE k (by omega) i j (by omega) (by omega)).sm (by omega) | exact (hE k (by omega) k k (by omega) (by omega)).sm (by omega) | exact (hE k (by omega) i k (by omega) (by omega)).sm (by omega) | exact (hE k (by omega) j k (by omega) (by omega)).sm (by omega) | exact (hE i (by omega) i i (by omega) (by omega)).sm (by omega) | exact (hD k (by omega)).sm (by omega) | exact (((hE k (by omega) k k (by omega) (by omega)).mul (hE k (by omega) i j (by omega) (by omega))).sub ((hE k (by omega) i k (by omega) (by omega)).mul (hE k (by omega) j k (by omega) (by omega)))).sm (by omega) | exact ((hE k (by omega) k k (by omega) (by omega)).mul (hE k (by omega) i j (by omega) (by omega))).sm (by omega) | exact ((hE k (by omega) i k (by omega) (by omega)).mul (hE k (by omega) j k (by omega) (by omega))).sm (by omega))) evs.nil) (c_zint_Sign (uE (gram b) i i i))) ?_
      refine WP.s .n (O.le rfl rfl) ?_
      refine WP.nil ?_
      refine QE.next ?_
      refine CW.condD rfl (fun h_t92 => ?_) (fun h_t92 => ?_)
      · refine CW.seq ?_
        refine CW.region ?_
        refine WP.s .n (O.bld lit93_pr_sl_C_sl_sl_C_ rfl evp.n (.nil _)) ?_
        refine WP.t .n (O.stW (l := (kPair (kSl kC) (kSl (kSl kC)))) (u := ([], [])) 4 rfl rfl rfl ty93 rfl (VP.le_refl _)) ?_
        refine WP.s .n (O.asg rfl) ?_
        refine WP.nil ?_
        refine QE.next ?_
        refine CW.ret ?_
        refine QE.thenR ?_
        refine QE.blkR ?_
        refine QE.thenR ?_
        refine QE.thenR ?_
        refine QE.blkR ?_
        refine QE.thenR ?_
        refine ST.obtold 4 rfl (OB.box_eq (y := (gsoV (gram b) b.length)) (gso_no (by omega) h_t92).2.symm) ?_
        refine ST.told 3 rfl (is_eq (y := (gOk (gram b) b.length)) (gso_no (by omega) h_t92).1.symm) ?_
        exact QE.done (.inl rfl) rfl (ResOk.c rfl (mem_at 4 rfl) ty93 (ResOk.t rfl ResOk.nil)) (OImp.sub (List.nil_sublist _)) ⟨rfl, rfl⟩
      · refine CW.skip ?_
        refine QE.next ?_
        refine CW.seq ?_
        refine CW.draw (Γ := [.fr (VP.ex (.pointer (some ⟨b3, 0, none⟩))), .fr (VP.ex vD), .fr (VP.ex v), .fr ((kInt .i64).is (i : Int)), .fr (VP.pel v (i * 2)), .fr (kC.is (uE (gram b) i i i)), .fr ((kSl kC).is [(uE (gram b) i i i)])]) (lates := [false, false, false, false, false, false, false]) (by kernel_rfl) (Chk.of rfl (by kernel_rfl) rfl) (fun _ _ _ _ _ h => h) (fun q_ x_ h_ => ?_) (fun σ6 => ?_)
        · match q_, h_ with
          | 0, h_ => cases h_; exact Ob.f rfl .n fun N => (O.fa rfl fld93_0 rfl)
          | 1, h_ => cases h_; exact Ob.f rfl .n fun N => (OpOk.le (O.ld (p := kVal.is vD) rfl (mem_app N (mem_at 2 rfl)) (Lens.fst (Lens.id _)) ty27 rfl) (val_ex _))
          | 2, h_ => cases h_; exact Ob.f rfl .n fun N => (O.mv rfl)
          | 3, h_ => cases h_; exact Ob.f rfl .n fun N => (O.mv rfl)
          | 4, h_ => cases h_; exact Ob.f rfl .n fun N => (O.ixR (k := kC) (xs := (gRow (gram b) i (i + 1))) (n := (i : Int)) i rfl rfl (mem_app N (mem_at 0 rfl)) Try.underlying27 ty31 rfl (by first | omega | (simp only [gRow_len, gDs_len, gLs_len]; omega)))
          | 5, h_ => cases h_; exact Ob.f rfl .n fun N => (O.ldR (k := kC) (xs := (gRow (gram b) i (i + 1))) i rfl (mem_app N (mem_at 0 rfl)) (Lens.id _) (ho := rfl) (y := (uE (gram b) i i i)) (gRow_at (by omega)) ty31 rfl)
          | 6, h_ => cases h_; exact Ob.f rfl .n fun N => (O.bs Try.underlying27 el31_C (evl.c rfl evl.n) rfl (by decide))
          | n_ + 7, h_ => simp at h_
        refine WP.ap 3 .n rfl rfl rfl (VP.le_refl _) Try.underlying27 el31_C (by simp only [gRow_len, gDs_len, gLs_len, List.length_cons, List.length_nil]; omega) fun v6 => ?_
        refine WP.s .n (O.fa rfl fld93_0 rfl) ?_
        refine ST.rowcell 3 rfl fun hcell_ => ?_
        refine WP.t .n (O.st 2 rfl rfl (Lens.fst (Lens.id _)) ty27 rfl (ex_val (by first | rfl | assumption))) ?_
        refine WP.nil ?_
        refine QE.next ?_
        refine ST.freeze 0 rfl (.keep (i := 0) rfl (.keep (i := 2) rfl (.keep (i := 3) rfl (.keep (i := 4) rfl (.keep (i := 5) rfl (.hit (i := 6) rfl (.keep (i := 7) rfl (.keep (i := 16) rfl (.keep (i := 17) rfl (.keep (i := 23) rfl (.keep (i := 24) rfl (.keep (i := 25) rfl (.hit (i := 87) rfl (.keep (i := 88) rfl (.keep (i := 89) rfl (.keep (i := 90) rfl (.keep (i := 91) rfl (.keep (i := 92) rfl (.keep (i := 94) rfl (.keep (i := 95) rfl (.hit (i := 96) rfl (.keep (i := 97) rfl (.keep (i := 98) rfl (.keep (i := 99) rfl (.keep (i := 100) rfl (.keep (i := 101) rfl (.keep (i := 102) rfl .nil))))))))))))))))))))))))))) ?_
        refine CW.draw (Γ := [.fr (VP.ex (.pointer (some ⟨b3, 1, none⟩))), .fr (VP.ex vL), .fr ((kSl kC).is (gRow (gram b) i (i + 1))), .fr ((kInt .i64).is (i : Int)), .fr ((kInt .i64).is (i : Int)), .fr ((kSl kC).is ((gRow (gram b) i (i + 1)).take i)), .fr ((kSl (kSl kC)).is [((gRow (gram b) i (i + 1)).take i)])]) (lates := [false, false, false, false, false, false, false]) (by kernel_rfl) (Chk.of rfl (by kernel_rfl) rfl) (fun _ _ _ _ _ h => h) (fun q_ x_ h_ => ?_) (fun σ7 => ?_)
        · match q_, h_ with
          | 0, h_ => cases h_; exact Ob.f rfl .n fun N => (O.fa rfl fld93_1 rfl)
          | 1, h_ => cases h_; exact Ob.f rfl .n fun N => (OpOk.le (O.ld (p := kVal.is vL) rfl (mem_app N (mem_at 1 rfl)) (Lens.snd (Lens.id _)) ty67 rfl) (val_ex _))
          | 2, h_ => cases h_; exact Ob.f rfl .n fun N => (O.mv rfl)
          | 3, h_ => cases h_; exact Ob.f rfl .n fun N => (O.mv rfl)
          | 4, h_ => cases h_; exact Ob.f rfl .n fun N => (O.mv rfl)
          | 5, h_ => cases h_; exact Ob.f rfl .n fun N => (O.sl3 i rfl rfl rfl Try.underlying27 ty31 rfl rfl (by first | omega | (simp only [gRow_len, gDs_len, gLs_len]; omega)))
          | 6, h_ => cases h_; exact Ob.f rfl .n fun N => (O.bs Try.underlying67 el27_sl_C (evl.c rfl evl.n) rfl (by decide))
          | n_ + 7, h_ => simp at h_
        refine WP.ap 0 .n rfl rfl rfl (VP.le_refl _) Try.underlying67 el27_sl_C (by simp only [gRow_len, gDs_len, gLs_len, List.length_cons, List.length_nil]; omega) fun v7 => ?_
        refine WP.s .n (O.fa rfl fld93_1 rfl) ?_
        refine ST.rowcell 0 rfl fun hcell_ => ?_
        refine WP.t .n (O.st 1 rfl rfl (Lens.snd (Lens.id _)) ty67 rfl (ex_val (by first | rfl | assumption))) ?_
        refine WP.nil ?_
        refine QE.blkN ?_
        refine QE.next ?_
        refine CW.region ?_
        refine WP.s .n (O.add rfl rfl (c := ((i : Int) + 1)) (w64 (by omega))) ?_
        refine WP.s .n (O.mv rfl) ?_
        refine WP.nil ?_
        refine ST.obtold 2 rfl (OB.row_eq (ys := (gDs (gram b) (i + 1))) (gDs_app (gram b) i)) ?_
        refine ST.obtold 0 rfl (OB.row_eq (ys := (gLs (gram b) (i + 1))) (by rw [gRow_take]; exact gLs_app (gram b) i)) ?_
        exact QE.round3 (i + 1) v6 v7 (by omega) ⟨by omega, posU_succ hP h_t92⟩ (Imp.cons rfl (Imp.cons rfl (Imp.cons rfl (Imp.cons rfl (Imp.cons rfl (Imp.consLe rfl (is_eq (y := (((i + 1) : Nat) : Int)) (by first | rfl | omega | assumption)) Imp.nil)))))) (OImp.refl _)
  · refine CW.exit ?_
    refine QE.thenE ?_
    refine QE.thenE ?_
    refine QE.blkH ?_
    refine QE.next ?_
    refine CW.seq ?_
    refine ST.freezeIn (k2 := (kPair (kSl kC) kVal)) ((gDs (gram b) i), vL) 2 1 rfl rfl (fun m_ cs_ h_ c_ => fz_fst m_ cs_ h_ c_) (.keep (i := 0) rfl (.keep (i := 2) rfl (.keep (i := 3) rfl (.keep (i := 4) rfl (.keep (i := 16) rfl (.keep (i := 17) rfl (.keep (i := 18) rfl .nil))))))) ?_
    refine ST.freezeIn (k2 := (kPair (kSl kC) (kSl (kSl kC)))) ((gDs (gram b) i), (gLs (gram b) i)) 0 0 rfl rfl (fun m_ cs_ h_ c_ => fz_snd m_ cs_ h_ c_) (.keep (i := 0) rfl (.keep (i := 2) rfl (.keep (i := 3) rfl (.keep (i := 4) rfl (.keep (i := 16) rfl (.keep (i := 17) rfl (.keep (i := 18) rfl .nil))))))) ?_
    have hib : i = b.length := by omega
    refine CW.region ?_
    refine WP.s .n (O.ld (p := (kPair (kSl kC) (kSl (kSl kC))).is ((gDs (gram b) i), (gLs (gram b) i))) rfl (mem_at 0 rfl) (Lens.id _) ty93 rfl) ?_
    refine WP.t .n (O.stW (l := (kPair (kSl kC) (kSl (kSl kC)))) (u := ((gDs (gram b) i), (gLs (gram b) i))) 1 rfl rfl rfl ty93 rfl (VP.le_refl _)) ?_
    refine WP.s .n (O.asg rfl) ?_
    refine WP.nil ?_
    refine QE.next ?_
    refine CW.ret ?_
    refine ST.obtold 1 rfl (OB.box_eq (y := (gsoV (gram b) b.length)) (by rw [hib]; rw [hib] at hP; exact (gso_yes hP).2.symm)) ?_
    refine ST.told 3 rfl (is_eq (y := (gOk (gram b) b.length)) (by rw [hib] at hP; exact (gso_yes hP).1.symm)) ?_
    exact QE.done (.inl rfl) rfl (ResOk.c rfl (mem_at 1 rfl) ty93 (ResOk.t rfl ResOk.nil)) (OImp.sub (List.nil_sublist _)) ⟨rfl, rfl⟩

end Fw


/- Plain facts: what rows may be; Gram-Schmidt data as fractions. -/
set_option linter.unusedVariables false
set_option linter.unusedSimpArgs false
set_option exponentiation.threshold 400
namespace Fw
open Go

section
variable {C : Ctx} {Q : Exit → Act → World → Prop} {ρ ρ' : Env} {L L' : List OB}
/-- A number in any form, behind a pointer that is read. -/
theorem ST.zp {K : Act → World → Prop} {z : Int} (i : Nat) (e : ρ.get i = some (VP.pim kZ z)) (h : ∀ y : Bool × List Nat, ival y = z → y.2.length ≤ 17179869184 → Lims y.2 → ST C K ((i, VP.pim kI y) :: ρ) L) : ST C K ρ L := fun m w a s t => by
  obtain ⟨g, o, c, cells, e1, e2, e3, y, e4, e5, e6⟩ := t.get i _ e
  have hl : Lims y.2 := by
    obtain ⟨c1, c2, h2, h3, h4⟩ := e4
    obtain ⟨ad, cap, rfl, _⟩ := h4
    exact kN_lims m _ ⟨_, rfl, ad, cap, rfl, by assumption⟩
  exact h y e5 e6 hl m w a s (t.consH ⟨g, o, c, cells, e1, e2, e3, e4⟩)
end

/-! ### Which rows may be -/
def bigN (b : List (List Int)) (bits : Bool) (i : Nat) : Bool := (decide ((12 : Int) < (b.length : Int)) || (bits && decide ((256 : Int) < mbits b))) || (b.take i).any (fun r => decide ((12 : Int) < (r.length : Int)))
theorem bigN_T {b bits} (h : (12 : Int) < (b.length : Int)) : true = bigN b bits 0 := by simp [bigN]; left; omega
theorem bigN_bT {b} (h : ¬ (12 : Int) < (b.length : Int)) : decide ((256 : Int) < mbits b) = bigN b true 0 := by simp [bigN]; omega
theorem bigN_bF {b} (h : ¬ (12 : Int) < (b.length : Int)) : false = bigN b false 0 := by simp [bigN]; omega
theorem bigN_succ {b bits i} (h : i < b.length) : bigN b bits (i + 1) = (bigN b bits i || decide ((12 : Int) < ((b.getD i []).length : Int))) := by
  unfold bigN
  rw [← take_app (d := []) h, List.any_append]
  simp [Bool.or_assoc]
def gshape (b : List (List Int)) (bits : Bool) : Int := if bigN b bits b.length = true then 40 else if b.length = 0 then 41 else shE b
theorem gshape_big {b bits} (h : bigN b bits b.length = true) : gshape b bits = 40 := if_pos h
theorem gshape_nil {b bits} (h : ¬ bigN b bits b.length = true) (h0 : b.length = 0) : gshape b bits = 41 := by unfold gshape; rw [if_neg h, if_pos h0]
theorem gshape_else {b bits} (h : ¬ bigN b bits b.length = true) (h0 : ¬ b.length = 0) : gshape b bits = shE b := by unfold gshape; rw [if_neg h, if_neg h0]
theorem bigN_no {b bits} (h : ¬ bigN b bits b.length = true) : b.length ≤ 12 ∧ (bits = true → mbits b ≤ 256) ∧ ∀ i, (b.getD i []).length ≤ 12 := by
  unfold bigN at h
  simp only [List.take_length, Bool.or_eq_true, Bool.and_eq_true, decide_eq_true_eq, List.any_eq_true, not_or, not_and, not_exists] at h
  obtain ⟨⟨h1, h2⟩, h3⟩ := h
  refine ⟨by omega, fun hb => by have := h2 hb; omega, fun i => ?_⟩
  by_cases hi : i < b.length
  · have := h3 (b.getD i []) (by rw [gde _ [] hi]; exact List.getElem_mem hi); omega
  · have e : b.getD i [] = [] := by simp [List.getD, Nat.le_of_not_lt hi]
    rw [e]; simp
theorem gshape_ok {b bits} (h : gshape b bits = 0) : ¬ bigN b bits b.length = true ∧ 0 < b.length ∧ rect b = true := by
  by_cases h1 : bigN b bits b.length = true
  · rw [gshape_big h1] at h; exact absurd h (by decide)
  · by_cases h2 : b.length = 0
    · rw [gshape_nil h1 h2] at h; exact absurd h (by decide)
    · rw [gshape_else h1 h2] at h; exact ⟨h1, by omega, rect_of_shE (by omega)⟩
theorem vbN_le {c : Int} {v : List Int} : ∀ {n : Int}, n ≤ c → (∀ x ∈ v, (bitlen x.natAbs : Int) ≤ c) → vbN n v ≤ c := by
  induction v with
  | nil => intro n h _; exact h
  | cons x v ih =>
    intro n h hx
    refine ih (n := vbF n x) ?_ (fun y hy => hx y (List.mem_cons_of_mem _ hy))
    have := hx x (by simp)
    unfold vbF
    omega
theorem mb_ge : ∀ (b : List (List Int)) (n : Int), n ≤ b.foldl vbN n
  | [], n => Int.le_refl n
  | r :: b, n => Int.le_trans (vbN_ge n r) (mb_ge b (vbN n r))
theorem mb_mem : ∀ {b : List (List Int)} {n : Int} {r : List Int} {x : Int}, r ∈ b → x ∈ r → (bitlen x.natAbs : Int) ≤ b.foldl vbN n
  | s :: b, n, r, x, h, hx => by
    rcases List.mem_cons.1 h with e | h
    · subst e; exact Int.le_trans (vbN_mem hx) (mb_ge b _)
    · exact mb_mem (b := b) (n := vbN n s) h hx
theorem mb_le {c : Int} : ∀ {b : List (List Int)} {n : Int}, n ≤ c → (∀ r ∈ b, ∀ x ∈ r, (bitlen x.natAbs : Int) ≤ c) → b.foldl vbN n ≤ c
  | [], n, h, _ => h
  | r :: b, n, h, hx => mb_le (b := b) (vbN_le h (hx r (by simp))) (fun s hs => hx s (List.mem_cons_of_mem _ hs))
theorem getD_mem {α : Type} {l : List α} {i : Nat} (d : α) (h : i < l.length) : l.getD i d ∈ l := by rw [gde l d h]; exact List.getElem_mem h
theorem mem_getD {α : Type} {l : List α} {x : α} (d : α) (h : x ∈ l) : ∃ i, i < l.length ∧ l.getD i d = x := by
  obtain ⟨i, hi, rfl⟩ := List.getElem_of_mem h
  exact ⟨i, hi, gde l d hi⟩
theorem mbits_Sz {b : List (List Int)} {c : Nat} (h : mbits b ≤ c) : SzM c b := by
  intro i k
  by_cases hi : i < b.length
  · by_cases hk : k < (b.getD i []).length
    · have h1 := mb_mem (n := 0) (getD_mem [] hi) (getD_mem 0 hk)
      have h2 := lt_bitlen ((b.getD i []).getD k 0).natAbs
      exact Nat.lt_of_lt_of_le h2 (Nat.pow_le_pow_right (by decide) (by have h3 : mbits b = b.foldl vbN 0 := rfl; omega))
    · have e : (b.getD i []).getD k 0 = 0 := by rw [List.getD_eq_getElem?_getD, List.getElem?_eq_none (by omega)]; rfl
      rw [e]; exact Sz.zero _
  · have e : b.getD i [] = [] := by simp [List.getD, Nat.le_of_not_lt hi]
    rw [e]; exact Sz.zero _
/-- rows as far as they were looked at -/
def rowsTo (b : List (List Int)) (bits : Bool) (i : Nat) : Prop := ∀ j, j < i → (b.getD j []).length ≤ 12 ∧ (bits = true → ∀ k, k < (b.getD j []).length → (bitlen ((b.getD j []).getD k 0).natAbs : Int) ≤ 256)
theorem rowsTo_end {b bits} (h0 : ¬ (12 : Int) < (b.length : Int)) (h : rowsTo b bits b.length) : ¬ bigN b bits b.length = true := by
  unfold bigN
  simp only [List.take_length, Bool.or_eq_true, Bool.and_eq_true, decide_eq_true_eq, List.any_eq_true, not_or, not_and, not_exists]
  refine ⟨⟨h0, fun hb => ?_⟩, fun r hr => ?_⟩
  · have : mbits b ≤ 256 := mb_le (by decide) fun r hr x hx => by
      obtain ⟨j, hj, rfl⟩ := mem_getD [] hr
      obtain ⟨k, hk, rfl⟩ := mem_getD 0 hx
      exact (h j hj).2 hb k hk
    omega
  · obtain ⟨j, hj, rfl⟩ := mem_getD [] hr
    have := (h j hj).1; omega
theorem big_row {b bits i} (hi : i < b.length) (h : (12 : Int) < ((b.getD i []).length : Int)) : bigN b bits b.length = true := by
  unfold bigN
  simp only [List.take_length, Bool.or_eq_true, decide_eq_true_eq, List.any_eq_true]
  exact .inr ⟨_, getD_mem [] hi, h⟩
theorem big_bit {b i k} (hi : i < b.length) (hk : k < (b.getD i []).length) (h : (256 : Int) < (bitlen ((b.getD i []).getD k 0).natAbs : Int)) : bigN b true b.length = true := by
  unfold bigN
  simp only [List.take_length, Bool.or_eq_true, Bool.and_eq_true, decide_eq_true_eq, List.any_eq_true]
  have h1 := mb_mem (n := 0) (getD_mem [] hi) (getD_mem 0 hk)
  have h3 : mbits b = b.foldl vbN 0 := rfl
  exact .inl (.inr ⟨trivial, by omega⟩)
theorem big_len {b bits} (h : (12 : Int) < (b.length : Int)) : bigN b bits b.length = true := by
  unfold bigN
  simp only [Bool.or_eq_true, decide_eq_true_eq]
  exact .inl (.inl h)

/-! ### The errors of a basis -/
def gsoE (b : List (List Int)) (bits : Bool) : Int := if gshape b bits ≠ 0 then gshape b bits else if gOk (gram b) b.length = true then 0 else 50
def gsoR (b : List (List Int)) (bits : Bool) : List Int × List (List Int) := if gshape b bits ≠ 0 then ([], []) else gsoV (gram b) b.length
theorem gsoE_1 {b bits} (h : gshape b bits ≠ 0) : gsoE b bits = gshape b bits ∧ gsoR b bits = ([], []) := ⟨if_pos h, if_pos h⟩
theorem gsoE_2 {b bits} (h : ¬ gshape b bits ≠ 0) (h2 : gOk (gram b) b.length = false) : gsoE b bits = 50 ∧ gsoR b bits = ([], []) := by
  have h3 : ¬ gOk (gram b) b.length = true := by simp [h2]
  refine ⟨by unfold gsoE; rw [if_neg h, if_neg h3], ?_⟩
  unfold gsoR gsoV; rw [if_neg h, if_neg h3]
theorem gsoE_3 {b bits} (h : ¬ gshape b bits ≠ 0) (h2 : gOk (gram b) b.length = true) : gsoE b bits = 0 ∧ gsoR b bits = gsoV (gram b) b.length := by
  refine ⟨by unfold gsoE; rw [if_neg h, if_pos h2], ?_⟩
  unfold gsoR; rw [if_neg h]

/-! ### Gram-Schmidt data as fractions -/
def frS (G : Nat → Nat → Int) (k : Nat) : Rat := gsE (qG G) k k k
def frM (G : Nat → Nat → Int) (i j : Nat) : Rat := gsE (qG G) j i j / gsE (qG G) j j j
def frRow (G : Nat → Nat → Int) (i m : Nat) : List (Int × Int) := (List.range m).map (fun j => rq (frM G i j))
def frMus (G : Nat → Nat → Int) (n : Nat) : List (List (Int × Int)) := (List.range n).map (fun i => frRow G i i)
def frSts (G : Nat → Nat → Int) (n : Nat) : List (Int × Int) := (List.range n).map (fun k => rq (frS G k))
theorem frRow_len (G i m) : (frRow G i m).length = m := by simp [frRow]
theorem frMus_len (G n) : (frMus G n).length = n := by simp [frMus]
theorem frSts_len (G n) : (frSts G n).length = n := by simp [frSts]
theorem frRow_at {G i m j} (h : j < m) : (frRow G i m)[j]? = some (rq (frM G i j)) := by simp [frRow, h]
theorem frSts_at {G n k} (h : k < n) : (frSts G n)[k]? = some (rq (frS G k)) := by simp [frSts, h]
theorem frMus_at {G n i k} (hi : i < n) (h : k < i) : ((frMus G n).getD i [])[k]? = some (rq (frM G i k)) := by
  rw [gde _ [] (by rw [frMus_len]; omega)]; simp [frMus, frRow, h]
theorem frRow_app (G i m) : frRow G i m ++ [rq (frM G i m)] = frRow G i (m + 1) := by simp [frRow, List.range_succ]
theorem frMus_app (G n) : frMus G n ++ [frRow G n n] = frMus G (n + 1) := by simp [frMus, List.range_succ]
theorem frSts_app (G n) : frSts G n ++ [rq (frS G n)] = frSts G (n + 1) := by simp [frSts, List.range_succ]
theorem qG_sym {G} (h : SymG G) : ∀ i j, qG G i j = qG G j i := fun i j => by unfold qG; rw [h]
theorem frS_ne {G k} (hs : SymG G) (hp : PosU G (k + 1)) : gsE (qG G) k k k ≠ 0 := by
  have h := (gsE_pos hs (hp.le (by omega) : PosU G k)).2 (hp k (by omega))
  intro e; rw [e] at h; exact absurd h (by decide)
theorem fr_step {G i k} (hs : SymG G) (hp : PosU G (k + 1)) (j : Nat) : gsE (qG G) k i j - frM G j k * frM G i k * frS G k = gsE (qG G) (k + 1) i j := by
  have hne := frS_ne hs hp
  have e := gsE_sym (qG_sym hs) k j k
  unfold frM frS
  show _ = gsE (qG G) k i j - gsE (qG G) k i k * gsE (qG G) k k j / gsE (qG G) k k k
  rw [← e]
  grind
theorem frS_pos {G k} (hs : SymG G) (hp : PosU G k) : 0 < frS G k ↔ 0 < uE G k k k := gsE_pos hs hp
theorem frS_sgn {G k} (hs : SymG G) (hp : PosU G k) : (rq (frS G k)).1.sign ≤ 0 ↔ ¬ 0 < uE G k k k := by
  rw [← frS_pos hs hp, ← rq_pos]
  constructor
  · intro h h2; have := Int.sign_eq_one_of_pos h2; omega
  · intro h
    rcases Int.lt_trichotomy (rq (frS G k)).1 0 with h1 | h1 | h1
    · rw [Int.sign_eq_neg_one_of_neg h1]; omega
    · rw [h1]; simp
    · exact absurd h1 h
/-- how many rows are independent of those ahead -/
def gCnt (G : Nat → Nat → Int) : Nat → Nat
  | 0 => 0
  | n + 1 => if gCnt G n = n ∧ 0 < uE G n n n then n + 1 else gCnt G n
theorem gCnt_pos {G} : ∀ {n}, PosU G n → gCnt G n = n
  | 0, _ => rfl
  | n + 1, h => by rw [gCnt, if_pos ⟨gCnt_pos (h.le (by omega)), h n (by omega)⟩]
theorem gCnt_stop {G i} (hp : PosU G i) (h : ¬ 0 < uE G i i i) : ∀ {n}, i < n → gCnt G n = i
  | n + 1, hn => by
    by_cases e : i = n
    · subst e; rw [gCnt, if_neg (fun x => h x.2)]; exact gCnt_pos hp
    · have := gCnt_stop hp h (n := n) (by omega)
      rw [gCnt, if_neg (fun x => by omega), this]
def frV (G : Nat → Nat → Int) (n : Nat) : List (List (Int × Int)) × List (Int × Int) := (frMus G (gCnt G n), frSts G (gCnt G n))
theorem fr_yes {G n} (h : PosU G n) : (frMus G n, frSts G n) = frV G n ∧ true = gOk G n := ⟨by unfold frV; rw [gCnt_pos h], (gOk_iff.2 h).symm⟩
theorem fr_no {G n i} (hi : i < n) (hp : PosU G i) (h : ¬ 0 < uE G i i i) : (frMus G i, frSts G i) = frV G n ∧ false = gOk G n := by
  refine ⟨by unfold frV; rw [gCnt_stop hp h hi], ?_⟩
  have e : ¬ gOk G n = true := fun e => h (gOk_iff.1 e i hi)
  simpa using e
theorem posU_next {G i} (hp : PosU G i) (h : 0 < uE G i i i) : PosU G (i + 1) := fun l hl => if e : l = i then e ▸ h else hp l (by omega)
/-- sizes -/
theorem frE_RZ {G : Nat → Nat → Int} (hs : SymG G) {n : Nat} (hn : ∀ i j, Sz n (G i j)) {K : Nat} (hp : PosU G K) {k i j : Nat} (hk : k ≤ K) (hi : k ≤ i) (hj : k ≤ j) : RZ (szU n k + 1) (gsE (qG G) k i j) := by
  rw [gsE_frac hs (hp.le hk) hi hj]
  have hd : 0 < uD G k := hp.uD hk
  exact RZ.frac (by omega) ((uE_Sz hs hn hp k hk i j hi hj).up (by omega)) (uD_Sz hs hn hp k hk)
theorem frM_eq {G : Nat → Nat → Int} (hs : SymG G) {j : Nat} (hp : PosU G (j + 1)) {i : Nat} (hi : j ≤ i) : frM G i j = (uE G j i j : Rat) / (uE G j j j : Rat) := by
  have h := hp.le (show j ≤ j + 1 by omega)
  have hd : 0 < uD G j := hp.uD (by omega)
  have hd2 := rat_ne (show uD G j ≠ 0 by omega)
  have hu := rat_ne (show uE G j j j ≠ 0 by have := hp j (by omega); omega)
  unfold frM
  rw [gsE_frac hs h hi (Nat.le_refl j), gsE_frac hs h (Nat.le_refl j) (Nat.le_refl j)]
  grind
theorem frM_RZ {G : Nat → Nat → Int} (hs : SymG G) {n : Nat} (hn : ∀ i j, Sz n (G i j)) {K : Nat} (hp : PosU G K) {i j : Nat} (hk : j < K) (hi : j ≤ i) : RZ (szU n j + 1) (frM G i j) := by
  rw [frM_eq hs (hp.le hk) hi]
  have hu : 0 < uE G j j j := hp j hk
  exact RZ.frac (by omega) ((uE_Sz hs hn hp j (by omega) i j hi (Nat.le_refl j)).up (by omega)) ((uE_Sz hs hn hp j (by omega) j j (Nat.le_refl j) (Nat.le_refl j)).up (by omega))

end Fw


/- Which rows may be; the data of rows: what the functions answer. -/
set_option linter.unusedVariables false
set_option linter.unusedSimpArgs false
set_option exponentiation.threshold 400
namespace Fw
open Go Go.Proofs

set_option maxRecDepth 20000 in
set_option maxHeartbeats 1000000 in
theorem c_gso_shaped (b : List (List Int)) (bits : Bool) : Fn Try.prog 183 [(kSl (kSl kZ)).is b, kBool.is bits] ((kInt .i64).is (gshape b bits)) := by
  refine Con.enter Try.func183 rfl rfl fun m w => ?_
  refine ST.fact (i := 0) rfl sl_len fun hB => ?_
  refine CW.seq ?_
  refine CW.region ?_
  refine WP.s .n (O.asg rfl) ?_
  refine WP.nil ?_
  refine QE.next ?_
  refine CW.seq ?_
  refine CW.region ?_
  refine WP.s .n (O.mv rfl) ?_
  refine WP.s .n (O.lenS rfl Try.underlying67) ?_
  refine WP.s .n (O.gt rfl rfl) ?_
  refine WP.s .n (O.mv rfl) ?_
  refine WP.splitD 14 rfl (fun h_t14 => ?_) (fun h_t14 => ?_)
  · refine WP.ku (b := true) rfl rfl ?_
    refine WP.ku (b := true) rfl rfl ?_
    refine WP.kk rfl rfl ?_
    refine WP.kk rfl rfl ?_
    refine WP.kk rfl rfl ?_
    refine WP.ku (b := true) rfl rfl ?_
    refine WP.s .n (O.pickT rfl rfl) ?_
    refine WP.s .n (O.asg rfl) ?_
    refine WP.nil ?_
    refine QE.next ?_
    refine CW.seq ?_
    refine CW.seq ?_
    refine CW.region ?_
    refine WP.s .n (O.mv rfl) ?_
    refine WP.s .n (O.lenS rfl Try.underlying67) ?_
    refine WP.s .n (O.mv rfl) ?_
    refine WP.nil ?_
    refine QE.next ?_
    refine CW.block ?_
    refine ST.told 5 rfl (is_eq (y := (bigN b bits 0)) (bigN_T h_t14)) ?_
    refine CW.loop (fun (i : Nat) => i ≤ b.length) (fun (i : Nat) => [(0, (kSl (kSl kZ)).is b), (5, kBool.is (bigN b bits i)), (22, (kSl (kSl kZ)).is b), (23, (kInt .i64).is (b.length : Int)), (24, (kInt .i64).is (i : Int))]) (fun (i : Nat) => []) (fun (i : Nat) => b.length - i) 0 (by omega) (Imp.cons rfl (Imp.cons rfl (Imp.cons rfl (Imp.cons rfl (Imp.consLe rfl (is_eq (y := (0 : Int)) (by first | rfl | omega | assumption)) Imp.nil))))) (OImp.refl _) ?_
    intro i hi
    refine CW.seq ?_
    refine CW.region ?_
    refine WP.s .n (O.lt rfl rfl) ?_
    refine WP.nil ?_
    refine QE.next ?_
    refine CW.seq ?_
    refine CW.condD rfl (fun h_t25 => ?_) (fun h_t25 => ?_)
    · refine CW.skip ?_
      refine QE.next ?_
      refine CW.seq ?_
      refine CW.block ?_
      refine CW.seq ?_
      refine CW.region ?_
      refine WP.s .n (O.ix i rfl rfl Try.underlying67 ty27 rfl (v := (b.getD i [])) (gd [] (by omega))) ?_
      refine WP.s .n (O.ldP rfl ty27) ?_
      refine WP.s .n (O.asg rfl) ?_
      refine WP.nil ?_
      refine QE.next ?_
      refine CW.region ?_
      refine WP.s .n (O.mv rfl) ?_
      refine WP.s .n (O.mv rfl) ?_
      refine WP.split 29 rfl (fun h_t29 => ?_) (fun h_t29 => ?_)
      · refine WP.ku (b := true) rfl rfl ?_
        refine WP.ku (b := true) rfl rfl ?_
        refine WP.ku (b := true) rfl rfl ?_
        refine WP.s .n (O.pickT rfl rfl) ?_
        refine WP.s .n (O.asg rfl) ?_
        refine WP.nil ?_
        refine QE.blkN ?_
        refine QE.next ?_
        refine CW.region ?_
        refine WP.s .n (O.add rfl rfl (c := ((i : Int) + 1)) (w64 (by omega))) ?_
        refine WP.s .n (O.mv rfl) ?_
        refine WP.nil ?_
        refine ST.told 5 rfl (is_eq (y := (bigN b bits (i + 1))) (by rw [bigN_succ (by omega)]; simp [h_t29])) ?_
        exact QE.round (i + 1) (by omega) (by omega) (Imp.cons rfl (Imp.cons rfl (Imp.cons rfl (Imp.cons rfl (Imp.consLe rfl (is_eq (y := (((i + 1) : Nat) : Int)) (by first | rfl | omega | assumption)) Imp.nil))))) (OImp.refl _)
      · refine WP.s (.g rfl rfl) (O.mv rfl) ?_
        refine WP.s (.g rfl rfl) (O.lenS rfl Try.underlying27) ?_
        refine WP.s (.g rfl rfl) (O.gt rfl rfl) ?_
        refine WP.s .n (O.pickF rfl rfl) ?_
        refine WP.s .n (O.asg rfl) ?_
        refine WP.nil ?_
        refine QE.blkN ?_
        refine QE.next ?_
        refine CW.region ?_
        refine WP.s .n (O.add rfl rfl (c := ((i : Int) + 1)) (w64 (by omega))) ?_
        refine WP.s .n (O.mv rfl) ?_
        refine WP.nil ?_
        refine ST.told 5 rfl (is_eq (y := (bigN b bits (i + 1))) (by rw [bigN_succ (by omega)]; simp [h_t29])) ?_
        exact QE.round (i + 1) (by omega) (by omega) (Imp.cons rfl (Imp.cons rfl (Imp.cons rfl (Imp.cons rfl (Imp.consLe rfl (is_eq (y := (((i + 1) : Nat) : Int)) (by first | rfl | omega | assumption)) Imp.nil))))) (OImp.refl _)
    · refine CW.exit ?_
      refine QE.thenE ?_
      refine QE.thenE ?_
      refine QE.blkH ?_
      refine QE.next ?_
      refine CW.seq ?_
      refine CW.seq ?_
      refine CW.region ?_
      refine WP.s .n (O.mv rfl) ?_
      refine WP.nil ?_
      refine QE.next ?_
      refine CW.cond rfl (fun h_t35 => ?_) (fun h_t35 => ?_)
      · refine CW.seq ?_
        refine CW.region ?_
        refine WP.s .n (O.asg rfl) ?_
        refine WP.nil ?_
        refine QE.next ?_
        refine CW.ret ?_
        refine QE.thenR ?_
        have hib : i = b.length := by omega
        subst hib
        refine ST.told 4 rfl (is_eq (y := (gshape b bits)) (by first | exact (gshape_big (by assumption)).symm | exact (gshape_nil (by simp [h_t35]) (by omega)).symm | exact (gshape_else (by simp [h_t35]) (by omega)).symm)) ?_
        exact QE.done (.inl rfl) rfl (ResOk.t rfl ResOk.nil) (OImp.sub (List.nil_sublist _)) ⟨rfl, rfl⟩
      · refine CW.skip ?_
        refine QE.next ?_
        refine CW.seq ?_
        refine CW.seq ?_
        refine CW.region ?_
        refine WP.s .n (O.mv rfl) ?_
        refine WP.s .n (O.lenS rfl Try.underlying67) ?_
        refine WP.s .n (O.eq rfl rfl) ?_
        refine WP.nil ?_
        refine QE.next ?_
        refine CW.condD rfl (fun h_t38 => ?_) (fun h_t38 => ?_)
        · refine CW.seq ?_
          refine CW.region ?_
          refine WP.s .n (O.asg rfl) ?_
          refine WP.nil ?_
          refine QE.next ?_
          refine CW.ret ?_
          refine QE.thenR ?_
          have hib : i = b.length := by omega
          subst hib
          refine ST.told 4 rfl (is_eq (y := (gshape b bits)) (by first | exact (gshape_big (by assumption)).symm | exact (gshape_nil (by simp [h_t35]) (by omega)).symm | exact (gshape_else (by simp [h_t35]) (by omega)).symm)) ?_
          exact QE.done (.inl rfl) rfl (ResOk.t rfl ResOk.nil) (OImp.sub (List.nil_sublist _)) ⟨rfl, rfl⟩
        · refine CW.skip ?_
          refine QE.next ?_
          refine CW.seq ?_
          refine CW.region ?_
          refine WP.s .n (O.mv rfl) ?_
          refine WP.s .n (O.fn fn135 (evs.c rfl evs.nil) (c_mat_Shape b)) ?_
          refine WP.s .n (O.mv rfl) ?_
          refine WP.s .n (O.ext rfl rfl) ?_
          refine WP.s .n (O.ext rfl rfl) ?_
          refine WP.s .n (O.ext rfl rfl) ?_
          refine WP.s .n (O.asg rfl) ?_
          refine WP.s .n (O.asg rfl) ?_
          refine WP.s .n (O.asg rfl) ?_
          refine WP.nil ?_
          refine QE.next ?_
          refine CW.seq ?_
          refine CW.region ?_
          refine WP.s .n (O.mv rfl) ?_
          refine WP.s .n (O.asg rfl) ?_
          refine WP.nil ?_
          refine QE.next ?_
          refine CW.ret ?_
          have hib : i = b.length := by omega
          subst hib
          refine ST.told 4 rfl (is_eq (y := (gshape b bits)) (by first | exact (gshape_big (by assumption)).symm | exact (gshape_nil (by simp [h_t35]) (by omega)).symm | exact (gshape_else (by simp [h_t35]) (by omega)).symm)) ?_
          exact QE.done (.inl rfl) rfl (ResOk.t rfl ResOk.nil) (OImp.sub (List.nil_sublist _)) ⟨rfl, rfl⟩
  · refine WP.s (.g rfl rfl) (O.mv rfl) ?_
    refine WP.s (.g rfl rfl) (O.mv rfl) ?_
    refine WP.split 16 rfl (fun h_t16 => ?_) (fun h_t16 => ?_)
    · refine WP.s (.g rfl rfl) (O.mv rfl) ?_
      refine WP.s (.g rfl rfl) (O.fn fn174 (evs.c rfl evs.nil) (c_mat_Bits b)) ?_
      refine WP.s (.g rfl rfl) (O.gt rfl rfl) ?_
      refine WP.s (.g rfl rfl) (O.pickT rfl rfl) ?_
      refine WP.s .n (O.pickF rfl rfl) ?_
      refine WP.s .n (O.asg rfl) ?_
      refine WP.nil ?_
      refine QE.next ?_
      refine CW.seq ?_
      refine CW.seq ?_
      refine CW.region ?_
      refine WP.s .n (O.mv rfl) ?_
      refine WP.s .n (O.lenS rfl Try.underlying67) ?_
      refine WP.s .n (O.mv rfl) ?_
      refine WP.nil ?_
      refine QE.next ?_
      refine CW.block ?_
      have hbt : bits = true := by first | assumption | exact h_t16
      refine ST.told 5 rfl (is_eq (y := (bigN b bits 0)) (by rw [hbt]; exact bigN_bT h_t14)) ?_
      refine CW.loop (fun (i : Nat) => i ≤ b.length) (fun (i : Nat) => [(0, (kSl (kSl kZ)).is b), (5, kBool.is (bigN b bits i)), (22, (kSl (kSl kZ)).is b), (23, (kInt .i64).is (b.length : Int)), (24, (kInt .i64).is (i : Int))]) (fun (i : Nat) => []) (fun (i : Nat) => b.length - i) 0 (by omega) (Imp.cons rfl (Imp.cons rfl (Imp.cons rfl (Imp.cons rfl (Imp.consLe rfl (is_eq (y := (0 : Int)) (by first | rfl | omega | assumption)) Imp.nil))))) (OImp.refl _) ?_
      intro i hi
      refine CW.seq ?_
      refine CW.region ?_
      refine WP.s .n (O.lt rfl rfl) ?_
      refine WP.nil ?_
      refine QE.next ?_
      refine CW.seq ?_
      refine CW.condD rfl (fun h_t25 => ?_) (fun h_t25 => ?_)
      · refine CW.skip ?_
        refine QE.next ?_
        refine CW.seq ?_
        refine CW.block ?_
        refine CW.seq ?_
        refine CW.region ?_
        refine WP.s .n (O.ix i rfl rfl Try.underlying67 ty27 rfl (v := (b.getD i [])) (gd [] (by omega))) ?_
        refine WP.s .n (O.ldP rfl ty27) ?_
        refine WP.s .n (O.asg rfl) ?_
        refine WP.nil ?_
        refine QE.next ?_
        refine CW.region ?_
        refine WP.s .n (O.mv rfl) ?_
        refine WP.s .n (O.mv rfl) ?_
        refine WP.split 29 rfl (fun h_t29 => ?_) (fun h_t29 => ?_)
        · refine WP.ku (b := true) rfl rfl ?_
          refine WP.ku (b := true) rfl rfl ?_
          refine WP.ku (b := true) rfl rfl ?_
          refine WP.s .n (O.pickT rfl rfl) ?_
          refine WP.s .n (O.asg rfl) ?_
          refine WP.nil ?_
          refine QE.blkN ?_
          refine QE.next ?_
          refine CW.region ?_
          refine WP.s .n (O.add rfl rfl (c := ((i : Int) + 1)) (w64 (by omega))) ?_
          refine WP.s .n (O.mv rfl) ?_
          refine WP.nil ?_
          refine ST.told 5 rfl (is_eq (y := (bigN b bits (i + 1))) (by rw [bigN_succ (by omega)]; simp [h_t29])) ?_
          exact QE.round (i + 1) (by omega) (by omega) (Imp.cons rfl (Imp.cons rfl (Imp.cons rfl (Imp.cons rfl (Imp.consLe rfl (is_eq (y := (((i + 1) : Nat) : Int)) (by first | rfl | omega | assumption)) Imp.nil))))) (OImp.refl _)
        · refine WP.s (.g rfl rfl) (O.mv rfl) ?_
          refine WP.s (.g rfl rfl) (O.lenS rfl Try.underlying27) ?_
          refine WP.s (.g rfl rfl) (O.gt rfl rfl) ?_
          refine WP.s .n (O.pickF rfl rfl) ?_
          refine WP.s .n (O.asg rfl) ?_
          refine WP.nil ?_
          refine QE.blkN ?_
          refine QE.next ?_
          refine CW.region ?_
          refine WP.s .n (O.add rfl rfl (c := ((i : Int) + 1)) (w64 (by omega))) ?_
          refine WP.s .n (O.mv rfl) ?_
          refine WP.nil ?_
          refine ST.told 5 rfl (is_eq (y := (bigN b bits (i + 1))) (by rw [bigN_succ (by omega)]; simp [h_t29])) ?_
          exact QE.round (i + 1) (by omega) (by omega) (Imp.cons rfl (Imp.cons rfl (Imp.cons rfl (Imp.cons rfl (Imp.consLe rfl (is_eq (y := (((i + 1) : Nat) : Int)) (by first | rfl | omega | assumption)) Imp.nil))))) (OImp.refl _)
      · refine CW.exit ?_
        refine QE.thenE ?_
        refine QE.thenE ?_
        refine QE.blkH ?_
        refine QE.next ?_
        refine CW.seq ?_
        refine CW.seq ?_
        refine CW.region ?_
        refine WP.s .n (O.mv rfl) ?_
        refine WP.nil ?_
        refine QE.next ?_
        refine CW.cond rfl (fun h_t35 => ?_) (fun h_t35 => ?_)
        · refine CW.seq ?_
          refine CW.region ?_
          refine WP.s .n (O.asg rfl) ?_
          refine WP.nil ?_
          refine QE.next ?_
          refine CW.ret ?_
          refine QE.thenR ?_
          have hib : i = b.length := by omega
          subst hib
          refine ST.told 4 rfl (is_eq (y := (gshape b bits)) (by first | exact (gshape_big (by assumption)).symm | exact (gshape_nil (by simp [h_t35]) (by omega)).symm | exact (gshape_else (by simp [h_t35]) (by omega)).symm)) ?_
          exact QE.done (.inl rfl) rfl (ResOk.t rfl ResOk.nil) (OImp.sub (List.nil_sublist _)) ⟨rfl, rfl⟩
        · refine CW.skip ?_
          refine QE.next ?_
          refine CW.seq ?_
          refine CW.seq ?_
          refine CW.region ?_
          refine WP.s .n (O.mv rfl) ?_
          refine WP.s .n (O.lenS rfl Try.underlying67) ?_
          refine WP.s .n (O.eq rfl rfl) ?_
          refine WP.nil ?_
          refine QE.next ?_
          refine CW.condD rfl (fun h_t38 => ?_) (fun h_t38 => ?_)
          · refine CW.seq ?_
            refine CW.region ?_
            refine WP.s .n (O.asg rfl) ?_
            refine WP.nil ?_
            refine QE.next ?_
            refine CW.ret ?_
            refine QE.thenR ?_
            have hib : i = b.length := by omega
            subst hib
            refine ST.told 4 rfl (is_eq (y := (gshape b bits)) (by first | exact (gshape_big (by assumption)).symm | exact (gshape_nil (by simp [h_t35]) (by omega)).symm | exact (gshape_else (by simp [h_t35]) (by omega)).symm)) ?_
            exact QE.done (.inl rfl) rfl (ResOk.t rfl ResOk.nil) (OImp.sub (List.nil_sublist _)) ⟨rfl, rfl⟩
          · refine CW.skip ?_
            refine QE.next ?_
            refine CW.seq ?_
            refine CW.region ?_
            refine WP.s .n (O.mv rfl) ?_
            refine WP.s .n (O.fn fn135 (evs.c rfl evs.nil) (c_mat_Shape b)) ?_
            refine WP.s .n (O.mv rfl) ?_
            refine WP.s .n (O.ext rfl rfl) ?_
            refine WP.s .n (O.ext rfl rfl) ?_
            refine WP.s .n (O.ext rfl rfl) ?_
            refine WP.s .n (O.asg rfl) ?_
            refine WP.s .n (O.asg rfl) ?_
            refine WP.s .n (O.asg rfl) ?_
            refine WP.nil ?_
            refine QE.next ?_
            refine CW.seq ?_
            refine CW.region ?_
            refine WP.s .n (O.mv rfl) ?_
            refine WP.s .n (O.asg rfl) ?_
            refine WP.nil ?_
            refine QE.next ?_
            refine CW.ret ?_
            have hib : i = b.length := by omega
            subst hib
            refine ST.told 4 rfl (is_eq (y := (gshape b bits)) (by first | exact (gshape_big (by assumption)).symm | exact (gshape_nil (by simp [h_t35]) (by omega)).symm | exact (gshape_else (by simp [h_t35]) (by omega)).symm)) ?_
            exact QE.done (.inl rfl) rfl (ResOk.t rfl ResOk.nil) (OImp.sub (List.nil_sublist _)) ⟨rfl, rfl⟩
    · refine WP.ku (b := false) rfl rfl ?_
      refine WP.ku (b := false) rfl rfl ?_
      refine WP.ku (b := false) rfl rfl ?_
      refine WP.s (.g rfl rfl) (O.pickF rfl rfl) ?_
      refine WP.s .n (O.pickF rfl rfl) ?_
      refine WP.s .n (O.asg rfl) ?_
      refine WP.nil ?_
      refine QE.next ?_
      refine CW.seq ?_
      refine CW.seq ?_
      refine CW.region ?_
      refine WP.s .n (O.mv rfl) ?_
      refine WP.s .n (O.lenS rfl Try.underlying67) ?_
      refine WP.s .n (O.mv rfl) ?_
      refine WP.nil ?_
      refine QE.next ?_
      refine CW.block ?_
      have hbt : bits = false := by first | assumption | exact h_t16
      refine ST.told 5 rfl (is_eq (y := (bigN b bits 0)) (by rw [hbt]; exact bigN_bF h_t14)) ?_
      refine CW.loop (fun (i : Nat) => i ≤ b.length) (fun (i : Nat) => [(0, (kSl (kSl kZ)).is b), (5, kBool.is (bigN b bits i)), (22, (kSl (kSl kZ)).is b), (23, (kInt .i64).is (b.length : Int)), (24, (kInt .i64).is (i : Int))]) (fun (i : Nat) => []) (fun (i : Nat) => b.length - i) 0 (by omega) (Imp.cons rfl (Imp.cons rfl (Imp.cons rfl (Imp.cons rfl (Imp.consLe rfl (is_eq (y := (0 : Int)) (by first | rfl | omega | assumption)) Imp.nil))))) (OImp.refl _) ?_
      intro i hi
      refine CW.seq ?_
      refine CW.region ?_
      refine WP.s .n (O.lt rfl rfl) ?_
      refine WP.nil ?_
      refine QE.next ?_
      refine CW.seq ?_
      refine CW.condD rfl (fun h_t25 => ?_) (fun h_t25 => ?_)
      · refine CW.skip ?_
        refine QE.next ?_
        refine CW.seq ?_
        refine CW.block ?_
        refine CW.seq ?_
        refine CW.region ?_
        refine WP.s .n (O.ix i rfl rfl Try.underlying67 ty27 rfl (v := (b.getD i [])) (gd [] (by omega))) ?_
        refine WP.s .n (O.ldP rfl ty27) ?_
        refine WP.s .n (O.asg rfl) ?_
        refine WP.nil ?_
        refine QE.next ?_
        refine CW.region ?_
        refine WP.s .n (O.mv rfl) ?_
        refine WP.s .n (O.mv rfl) ?_
        refine WP.split 29 rfl (fun h_t29 => ?_) (fun h_t29 => ?_)
        · refine WP.ku (b := true) rfl rfl ?_
          refine WP.ku (b := true) rfl rfl ?_
          refine WP.ku (b := true) rfl rfl ?_
          refine WP.s .n (O.pickT rfl rfl) ?_
          refine WP.s .n (O.asg rfl) ?_
          refine WP.nil ?_
          refine QE.blkN ?_
          refine QE.next ?_
          refine CW.region ?_
          refine WP.s .n (O.add rfl rfl (c := ((i : Int) + 1)) (w64 (by omega))) ?_
          refine WP.s .n (O.mv rfl) ?_
          refine WP.nil ?_
          refine ST.told 5 rfl (is_eq (y := (bigN b bits (i + 1))) (by rw [bigN_succ (by omega)]; simp [h_t29])) ?_
          exact QE.round (i + 1) (by omega) (by omega) (Imp.cons rfl (Imp.cons rfl (Imp.cons rfl (Imp.cons rfl (Imp.consLe rfl (is_eq (y := (((i + 1) : Nat) : Int)) (by first | rfl | omega | assumption)) Imp.nil))))) (OImp.refl _)
        · refine WP.s (.g rfl rfl) (O.mv rfl) ?_
          refine WP.s (.g rfl rfl) (O.lenS rfl Try.underlying27) ?_
          refine WP.s (.g rfl rfl) (O.gt rfl rfl) ?_
          refine WP.s .n (O.pickF rfl rfl) ?_
          refine WP.s .n (O.asg rfl) ?_
          refine WP.nil ?_
          refine QE.blkN ?_
          refine QE.next ?_
          refine CW.region ?_
          refine WP.s .n (O.add rfl rfl (c := ((i : Int) + 1)) (w64 (by omega))) ?_
          refine WP.s .n (O.mv rfl) ?_
          refine WP.nil ?_
          refine ST.told 5 rfl (is_eq (y := (bigN b bits (i + 1))) (by rw [bigN_succ (by omega)]; simp [h_t29])) ?_
          exact QE.round (i + 1) (by omega) (by omega) (Imp.cons rfl (Imp.cons rfl (Imp.cons rfl (Imp.cons rfl (Imp.consLe rfl (is_eq (y := (((i + 1) : Nat) : Int)) (by first | rfl | omega | assumption)) Imp.nil))))) (OImp.refl _)
      · refine CW.exit ?_
        refine QE.thenE ?_
        refine QE.thenE ?_
        refine QE.blkH ?_
        refine QE.next ?_
        refine CW.seq ?_
        refine CW.seq ?_
        refine CW.region ?_
        refine WP.s .n (O.mv rfl) ?_
        refine WP.nil ?_
        refine QE.next ?_
        refine CW.cond rfl (fun h_t35 => ?_) (fun h_t35 => ?_)
        · refine CW.seq ?_
          refine CW.region ?_
          refine WP.s .n (O.asg rfl) ?_
          refine WP.nil ?_
          refine QE.next ?_
          refine CW.ret ?_
          refine QE.thenR ?_
          have hib : i = b.length := by omega
          subst hib
          refine ST.told 4 rfl (is_eq (y := (gshape b bits)) (by first | exact (gshape_big (by assumption)).symm | exact (gshape_nil (by simp [h_t35]) (by omega)).symm | exact (gshape_else (by simp [h_t35]) (by omega)).symm)) ?_
          exact QE.done (.inl rfl) rfl (ResOk.t rfl ResOk.nil) (OImp.sub (List.nil_sublist _)) ⟨rfl, rfl⟩
        · refine CW.skip ?_
          refine QE.next ?_
          refine CW.seq ?_
          refine CW.seq ?_
          refine CW.region ?_
          refine WP.s .n (O.mv rfl) ?_
          refine WP.s .n (O.lenS rfl Try.underlying67) ?_
          refine WP.s .n (O.eq rfl rfl) ?_
          refine WP.nil ?_
          refine QE.next ?_
          refine CW.condD rfl (fun h_t38 => ?_) (fun h_t38 => ?_)
          · refine CW.seq ?_
            refine CW.region ?_
            refine WP.s .n (O.asg rfl) ?_
            refine WP.nil ?_
            refine QE.next ?_
            refine CW.ret ?_
            refine QE.thenR ?_
            have hib : i = b.length := by omega
            subst hib
            refine ST.told 4 rfl (is_eq (y := (gshape b bits)) (by first | exact (gshape_big (by assumption)).symm | exact (gshape_nil (by simp [h_t35]) (by omega)).symm | exact (gshape_else (by simp [h_t35]) (by omega)).symm)) ?_
            exact QE.done (.inl rfl) rfl (ResOk.t rfl ResOk.nil) (OImp.sub (List.nil_sublist _)) ⟨rfl, rfl⟩
          · refine CW.skip ?_
            refine QE.next ?_
            refine CW.seq ?_
            refine CW.region ?_
            refine WP.s .n (O.mv rfl) ?_
            refine WP.s .n (O.fn fn135 (evs.c rfl evs.nil) (c_mat_Shape b)) ?_
            refine WP.s .n (O.mv rfl) ?_
            refine WP.s .n (O.ext rfl rfl) ?_
            refine WP.s .n (O.ext rfl rfl) ?_
            refine WP.s .n (O.ext rfl rfl) ?_
            refine WP.s .n (O.asg rfl) ?_
            refine WP.s .n (O.asg rfl) ?_
            refine WP.s .n (O.asg rfl) ?_
            refine WP.nil ?_
            refine QE.next ?_
            refine CW.seq ?_
            refine CW.region ?_
            refine WP.s .n (O.mv rfl) ?_
            refine WP.s .n (O.asg rfl) ?_
            refine WP.nil ?_
            refine QE.next ?_
            refine CW.ret ?_
            have hib : i = b.length := by omega
            subst hib
            refine ST.told 4 rfl (is_eq (y := (gshape b bits)) (by first | exact (gshape_big (by assumption)).symm | exact (gshape_nil (by simp [h_t35]) (by omega)).symm | exact (gshape_else (by simp [h_t35]) (by omega)).symm)) ?_
            exact QE.done (.inl rfl) rfl (ResOk.t rfl ResOk.nil) (OImp.sub (List.nil_sublist _)) ⟨rfl, rfl⟩

set_option maxRecDepth 20000 in
set_option maxHeartbeats 1000000 in
theorem c_gso_of (n : Nat) (b : List (List Int)) (bits : Bool) (hb : gshape b bits = 0 → SzM n b) (hn : n ≤ 4194304) : Fn Try.prog 134 [(kSl (kSl kZ)).is b, kBool.is bits] (VP.tup [(kPair (kSl kC) (kSl (kSl kC))).is (gsoR b bits), (kInt .i64).is (gsoE b bits)]) := by
  refine Con.enter Try.func134 rfl rfl fun m w => ?_
  refine CW.seq ?_
  refine CW.region ?_
  refine WP.al .n z93_pr_sl_C_sl_sl_C_ fun b1 => ?_
  refine WP.s .n (O.asg rfl) ?_
  refine WP.nil ?_
  refine QE.next ?_
  refine CW.seq ?_
  refine CW.seq ?_
  refine CW.region ?_
  refine WP.s .n (O.mv rfl) ?_
  refine WP.s .n (O.mv rfl) ?_
  refine WP.s .n (O.fn fn183 (evs.c rfl (evs.c rfl evs.nil)) (c_gso_shaped b bits)) ?_
  refine WP.s .n (O.asg rfl) ?_
  refine WP.nil ?_
  refine QE.next ?_
  refine CW.seq ?_
  refine CW.region ?_
  refine WP.s .n (O.mv rfl) ?_
  refine WP.s .n (O.ne rfl rfl) ?_
  refine WP.nil ?_
  refine QE.next ?_
  refine CW.condD rfl (fun h_t13 => ?_) (fun h_t13 => ?_)
  · refine CW.seq ?_
    refine CW.region ?_
    refine WP.s .n (O.bld lit93_pr_sl_C_sl_sl_C_ rfl evp.n (.nil _)) ?_
    refine WP.s .n (O.mv rfl) ?_
    refine WP.t .n (O.stW (l := (kPair (kSl kC) (kSl (kSl kC)))) (u := ([], [])) 0 rfl rfl rfl ty93 rfl (VP.le_refl _)) ?_
    refine WP.s .n (O.asg rfl) ?_
    refine WP.nil ?_
    refine QE.next ?_
    refine CW.ret ?_
    refine QE.thenR ?_
    refine ST.obtold 0 rfl (OB.box_eq (y := (gsoR b bits)) (gsoE_1 (by omega)).2.symm) ?_
    refine ST.told 5 rfl (is_eq (y := (gsoE b bits)) (gsoE_1 (by omega)).1.symm) ?_
    exact QE.done (.inl rfl) rfl (ResOk.c rfl (mem_at 0 rfl) ty93 (ResOk.t rfl ResOk.nil)) (OImp.sub (List.nil_sublist _)) ⟨rfl, rfl⟩
  · refine CW.skip ?_
    refine QE.next ?_
    refine CW.seq ?_
    have hok := gshape_ok (show gshape b bits = 0 by omega)
    have hno := bigN_no hok.1
    have hr := rectL hok.2.2
    refine CW.region ?_
    refine WP.s .n (O.mv rfl) ?_
    refine WP.s .n (O.fn fn184 (evs.c rfl evs.nil) (c_gso_built n b (by first | assumption | omega | exact hb (by omega) | exact hno.1 | exact hno.2.2 0) (by first | assumption | omega | exact hb (by omega) | exact hno.1 | exact hno.2.2 0) (by first | assumption | omega | exact hb (by omega) | exact hno.1 | exact hno.2.2 0) (by first | assumption | omega | exact hb (by omega) | exact hno.1 | exact hno.2.2 0) (by first | assumption | omega | exact hb (by omega) | exact hno.1 | exact hno.2.2 0))) ?_
    refine WP.s .n (O.mv rfl) ?_
    refine WP.s .n (O.ext rfl rfl) ?_
    refine WP.s .n (O.ext rfl rfl) ?_
    refine WP.al .n z93_pr_sl_C_sl_sl_C_ fun b2 => ?_
    refine WP.t .n (O.stW (l := (kPair (kSl kC) (kSl (kSl kC)))) (u := gsoV (gram b) b.length) 0 rfl rfl rfl ty93 rfl (VP.le_refl _)) ?_
    refine WP.s .n (O.asg rfl) ?_
    refine WP.nil ?_
    refine QE.next ?_
    refine CW.seq ?_
    refine CW.seq ?_
    refine CW.region ?_
    refine WP.s .n (O.mv rfl) ?_
    refine WP.s .n (O.not rfl) ?_
    refine WP.nil ?_
    refine QE.next ?_
    refine CW.cond rfl (fun h_t22 => ?_) (fun h_t22 => ?_)
    · refine CW.seq ?_
      refine CW.region ?_
      refine WP.s .n (O.bld lit93_pr_sl_C_sl_sl_C_ rfl evp.n (.nil _)) ?_
      refine WP.t .n (O.stW (l := (kPair (kSl kC) (kSl (kSl kC)))) (u := ([], [])) 1 rfl rfl rfl ty93 rfl (VP.le_refl _)) ?_
      refine WP.s .n (O.asg rfl) ?_
      refine WP.nil ?_
      refine QE.next ?_
      refine CW.ret ?_
      refine QE.thenR ?_
      have hk : gOk (gram b) b.length = false := by simpa using h_t22
      refine ST.obtold 1 rfl (OB.box_eq (y := (gsoR b bits)) (gsoE_2 (by omega) hk).2.symm) ?_
      refine ST.told 5 rfl (is_eq (y := (gsoE b bits)) (gsoE_2 (by omega) hk).1.symm) ?_
      exact QE.done (.inl rfl) rfl (ResOk.c rfl (mem_at 1 rfl) ty93 (ResOk.t rfl ResOk.nil)) (OImp.sub (List.nil_sublist _)) ⟨rfl, rfl⟩
    · refine CW.skip ?_
      refine QE.next ?_
      refine CW.seq ?_
      refine CW.region ?_
      refine WP.s .n (O.ld rfl (mem_at 0 rfl) (Lens.id _) ty93 rfl) ?_
      refine WP.t .n (O.stW (l := (kPair (kSl kC) (kSl (kSl kC)))) (u := gsoV (gram b) b.length) 1 rfl rfl rfl ty93 rfl (VP.le_refl _)) ?_
      refine WP.s .n (O.asg rfl) ?_
      refine WP.nil ?_
      refine QE.next ?_
      refine CW.ret ?_
      have hk : gOk (gram b) b.length = true := by simpa using h_t22
      refine ST.obtold 1 rfl (OB.box_eq (y := (gsoR b bits)) (gsoE_3 (by omega) hk).2.symm) ?_
      refine ST.told 5 rfl (is_eq (y := (gsoE b bits)) (gsoE_3 (by omega) hk).1.symm) ?_
      exact QE.done (.inl rfl) rfl (ResOk.c rfl (mem_at 1 rfl) ty93 (ResOk.t rfl ResOk.nil)) (OImp.sub (List.nil_sublist _)) ⟨rfl, rfl⟩

set_option maxRecDepth 20000 in
set_option maxHeartbeats 1000000 in
theorem c_gso_Valid (b : List (List Int)) : Fn Try.prog 116 [(kSl (kSl kZ)).is b] ((kInt .i64).is (gsoE b true)) := by
  refine Con.enter Try.func116 rfl rfl fun m w => ?_
  refine CW.seq ?_
  refine CW.region ?_
  refine WP.s .n (O.asg rfl) ?_
  refine WP.nil ?_
  refine QE.next ?_
  refine CW.seq ?_
  refine CW.region ?_
  refine WP.s .n (O.mv rfl) ?_
  refine WP.s .n (O.fn fn134 (evs.c rfl (evs.c rfl evs.nil)) (c_gso_of 256 b true (fun h => mbits_Sz ((bigN_no (gshape_ok h).1).2.1 rfl)) (by decide))) ?_
  refine WP.s .n (O.mv rfl) ?_
  refine WP.s .n (O.ext rfl rfl) ?_
  refine WP.s .n (O.ext rfl rfl) ?_
  refine WP.al .n z93_pr_sl_C_sl_sl_C_ fun b1 => ?_
  refine WP.t .n (O.stW (l := (kPair (kSl kC) (kSl (kSl kC)))) (u := gsoR b true) 0 rfl rfl rfl ty93 rfl (VP.le_refl _)) ?_
  refine WP.s .n (O.asg rfl) ?_
  refine WP.nil ?_
  refine QE.next ?_
  refine CW.seq ?_
  refine CW.region ?_
  refine WP.s .n (O.mv rfl) ?_
  refine WP.s .n (O.asg rfl) ?_
  refine WP.nil ?_
  refine QE.next ?_
  refine CW.ret ?_
  exact QE.done (.inl rfl) rfl (ResOk.t rfl ResOk.nil) (OImp.sub (List.nil_sublist _)) ⟨rfl, rfl⟩

set_option maxRecDepth 20000 in
set_option maxHeartbeats 1000000 in
theorem c_ref05_shape (b : List (List Int)) (bits : Bool) : Fn Try.prog 218 [(kSl (kSl kZ)).is b, kBool.is bits] ((kInt .i64).is (gshape b bits)) := by
  refine Con.enter Try.func218 rfl rfl fun m w => ?_
  refine ST.fact (i := 0) rfl sl_len fun hB => ?_
  refine ST.fact (i := 0) rfl slsl_len fun hlc => ?_
  refine CW.seq ?_
  refine CW.region ?_
  refine WP.s .n (O.asg rfl) ?_
  refine WP.nil ?_
  refine QE.next ?_
  refine CW.seq ?_
  refine CW.seq ?_
  refine CW.region ?_
  refine WP.s .n (O.mv rfl) ?_
  refine WP.s .n (O.lenS rfl Try.underlying67) ?_
  refine WP.s .n (O.gt rfl rfl) ?_
  refine WP.nil ?_
  refine QE.next ?_
  refine CW.condD rfl (fun h_t10 => ?_) (fun h_t10 => ?_)
  · refine CW.seq ?_
    refine CW.region ?_
    refine WP.s .n (O.asg rfl) ?_
    refine WP.nil ?_
    refine QE.next ?_
    refine CW.ret ?_
    refine QE.thenR ?_
    refine ST.told 4 rfl (is_eq (y := (gshape b bits)) (gshape_big (big_len h_t10)).symm) ?_
    exact QE.done (.inl rfl) rfl (ResOk.t rfl ResOk.nil) (OImp.sub (List.nil_sublist _)) ⟨rfl, rfl⟩
  · refine CW.skip ?_
    refine QE.next ?_
    refine CW.seq ?_
    refine CW.seq ?_
    refine CW.region ?_
    refine WP.s .n (O.asg rfl) ?_
    refine WP.nil ?_
    refine QE.next ?_
    refine CW.block ?_
    refine CW.loop (fun (i : Nat) => i ≤ b.length ∧ rowsTo b bits i) (fun (i : Nat) => [(0, (kSl (kSl kZ)).is b), (1, kBool.is bits), (5, (kInt .i64).is (i : Int))]) (fun (i : Nat) => []) (fun (i : Nat) => b.length - i) 0 ⟨Nat.zero_le _, fun j hj => absurd hj (by omega)⟩ (Imp.cons rfl (Imp.cons rfl (Imp.consLe rfl (is_eq (y := (0 : Int)) (by first | rfl | omega | assumption)) Imp.nil))) (OImp.refl _) ?_
    intro i ⟨hi, hA⟩
    refine CW.seq ?_
    refine CW.seq ?_
    refine CW.region ?_
    refine WP.s .n (O.mv rfl) ?_
    refine WP.s .n (O.mv rfl) ?_
    refine WP.s .n (O.lenS rfl Try.underlying67) ?_
    refine WP.s .n (O.lt rfl rfl) ?_
    refine WP.nil ?_
    refine QE.next ?_
    refine CW.condD rfl (fun h_t14 => ?_) (fun h_t14 => ?_)
    · refine CW.skip ?_
      refine QE.next ?_
      refine CW.seq ?_
      refine CW.block ?_
      refine CW.seq ?_
      refine CW.seq ?_
      have hlci := hlc i
      refine CW.region ?_
      refine WP.s .n (O.mv rfl) ?_
      refine WP.s .n (O.mv rfl) ?_
      refine WP.s .n (O.ix i rfl rfl Try.underlying67 ty27 rfl (v := (b.getD i [])) (gd [] (by omega))) ?_
      refine WP.s .n (O.ldP rfl ty27) ?_
      refine WP.s .n (O.lenS rfl Try.underlying27) ?_
      refine WP.s .n (O.gt rfl rfl) ?_
      refine WP.nil ?_
      refine QE.next ?_
      refine CW.condD rfl (fun h_t22 => ?_) (fun h_t22 => ?_)
      · refine CW.seq ?_
        refine CW.region ?_
        refine WP.s .n (O.asg rfl) ?_
        refine WP.nil ?_
        refine QE.next ?_
        refine CW.ret ?_
        refine QE.thenR ?_
        refine QE.blkR ?_
        refine QE.thenR ?_
        refine QE.thenR ?_
        refine QE.blkR ?_
        refine QE.thenR ?_
        refine ST.told 4 rfl (is_eq (y := (gshape b bits)) (gshape_big (big_row (i := i) (by omega) (by omega))).symm) ?_
        exact QE.done (.inl rfl) rfl (ResOk.t rfl ResOk.nil) (OImp.sub (List.nil_sublist _)) ⟨rfl, rfl⟩
      · refine CW.skip ?_
        refine QE.next ?_
        refine CW.seq ?_
        refine CW.region ?_
        refine WP.s .n (O.asg rfl) ?_
        refine WP.nil ?_
        refine QE.next ?_
        refine CW.block ?_
        refine CW.loop (fun (k : Nat) => k ≤ (b.getD i []).length ∧ (bits = true → ∀ l, l < k → (bitlen ((b.getD i []).getD l 0).natAbs : Int) ≤ 256)) (fun (k : Nat) => [(0, (kSl (kSl kZ)).is b), (1, kBool.is bits), (5, (kInt .i64).is (i : Int)), (6, (kInt .i64).is (k : Int))]) (fun (k : Nat) => []) (fun (k : Nat) => (b.getD i []).length - k) 0 ⟨Nat.zero_le _, fun _ j hj => absurd hj (by omega)⟩ (Imp.cons rfl (Imp.cons rfl (Imp.cons rfl (Imp.consLe rfl (is_eq (y := (0 : Int)) (by first | rfl | omega | assumption)) Imp.nil)))) (OImp.refl _) ?_
        intro k ⟨hk, hK⟩
        refine CW.seq ?_
        refine CW.seq ?_
        refine CW.region ?_
        refine WP.s .n (O.mv rfl) ?_
        refine WP.s .n (O.mv rfl) ?_
        refine WP.s .n (O.mv rfl) ?_
        refine WP.s .n (O.ix i rfl rfl Try.underlying67 ty27 rfl (v := (b.getD i [])) (gd [] (by omega))) ?_
        refine WP.s .n (O.ldP rfl ty27) ?_
        refine WP.s .n (O.lenS rfl Try.underlying27) ?_
        refine WP.s .n (O.lt rfl rfl) ?_
        refine WP.nil ?_
        refine QE.next ?_
        refine CW.condD rfl (fun h_t29 => ?_) (fun h_t29 => ?_)
        · refine CW.skip ?_
          refine QE.next ?_
          refine CW.seq ?_
          refine CW.block ?_
          refine CW.seq ?_
          refine CW.region ?_
          refine WP.s .n (O.mv rfl) ?_
          refine WP.s .n (O.mv rfl) ?_
          refine WP.split 33 rfl (fun h_t33 => ?_) (fun h_t33 => ?_)
          · refine WP.s (.g rfl rfl) (O.mv rfl) ?_
            refine WP.s (.g rfl rfl) (O.mv rfl) ?_
            refine WP.s (.g rfl rfl) (O.ix i rfl rfl Try.underlying67 ty27 rfl (v := (b.getD i [])) (gd [] (by omega))) ?_
            refine WP.s (.g rfl rfl) (O.ldP rfl ty27) ?_
            refine WP.s (.g rfl rfl) (O.mv rfl) ?_
            refine WP.s (.g rfl rfl) (O.ix k rfl rfl Try.underlying27 ty31 rfl (v := ((b.getD i []).getD k 0)) (gd 0 (by omega))) ?_
            refine ST.zp 39 rfl fun y y_v y_n y_l => ?_
            refine WP.s (.g rfl rfl) (O.faP rfl fld31_1 (Lens.snd (Lens.id _)) rfl) ?_
            refine WP.s (.g rfl rfl) (O.ldP rfl ty29) ?_
            refine WP.s (.g rfl rfl) (O.fn fn164 (evs.c rfl evs.nil) (c_ref01_Bits y.2)) ?_
            refine ST.told 42 rfl (is_eq (y := (bitlen ((b.getD i []).getD k 0).natAbs : Int)) (by rw [← y_v, ival_abs])) ?_
            refine WP.s (.g rfl rfl) (O.gt rfl rfl) ?_
            refine WP.s .n (O.pickT rfl rfl) ?_
            refine WP.nil ?_
            refine QE.next ?_
            refine CW.condD rfl (fun h_t44 => ?_) (fun h_t44 => ?_)
            · refine CW.seq ?_
              refine CW.region ?_
              refine WP.s .n (O.asg rfl) ?_
              refine WP.nil ?_
              refine QE.next ?_
              refine CW.ret ?_
              refine QE.blkR ?_
              refine QE.thenR ?_
              refine QE.thenR ?_
              refine QE.blkR ?_
              refine QE.blkR ?_
              refine QE.thenR ?_
              refine QE.thenR ?_
              refine QE.blkR ?_
              refine QE.thenR ?_
              have hbt : bits = true := by first | assumption | exact h_t33
              refine ST.told 4 rfl (is_eq (y := (gshape b bits)) (by rw [hbt]; exact (gshape_big (big_bit (i := i) (k := k) (by omega) (by omega) (by omega))).symm)) ?_
              exact QE.done (.inl rfl) rfl (ResOk.t rfl ResOk.nil) (OImp.sub (List.nil_sublist _)) ⟨rfl, rfl⟩
            · refine CW.skip ?_
              refine QE.blkN ?_
              refine QE.next ?_
              refine CW.region ?_
              refine WP.s .n (O.mv rfl) ?_
              refine WP.s .n (O.add rfl rfl (c := ((k : Int) + 1)) (w64 (by omega))) ?_
              refine WP.s .n (O.asg rfl) ?_
              refine WP.nil ?_
              exact QE.round (k + 1) (by omega) ⟨by omega, fun hb l hl => if e : l = k then by subst e; first | omega | simp_all else hK hb l (by omega)⟩ (Imp.cons rfl (Imp.cons rfl (Imp.cons rfl (Imp.consLe rfl (is_eq (y := (((k + 1) : Nat) : Int)) (by first | rfl | omega | assumption)) Imp.nil)))) (OImp.refl _)
          · refine WP.ku (b := false) rfl rfl ?_
            refine WP.ku (b := false) rfl rfl ?_
            refine WP.ku (b := false) rfl rfl ?_
            refine WP.ku (b := false) rfl rfl ?_
            refine WP.ku (b := false) rfl rfl ?_
            refine WP.ku (b := false) rfl rfl ?_
            refine WP.ku (b := false) rfl rfl ?_
            refine WP.ku (b := false) rfl rfl ?_
            refine WP.ku (b := false) rfl rfl ?_
            refine WP.ku (b := false) rfl rfl ?_
            refine WP.s .n (O.pickF rfl rfl) ?_
            refine WP.nil ?_
            refine QE.next ?_
            refine CW.condF rfl ?_
            refine CW.skip ?_
            refine QE.blkN ?_
            refine QE.next ?_
            refine CW.region ?_
            refine WP.s .n (O.mv rfl) ?_
            refine WP.s .n (O.add rfl rfl (c := ((k : Int) + 1)) (w64 (by omega))) ?_
            refine WP.s .n (O.asg rfl) ?_
            refine WP.nil ?_
            exact QE.round (k + 1) (by omega) ⟨by omega, fun hb l hl => if e : l = k then by subst e; first | omega | simp_all else hK hb l (by omega)⟩ (Imp.cons rfl (Imp.cons rfl (Imp.cons rfl (Imp.consLe rfl (is_eq (y := (((k + 1) : Nat) : Int)) (by first | rfl | omega | assumption)) Imp.nil)))) (OImp.refl _)
        · refine CW.exit ?_
          refine QE.thenE ?_
          refine QE.thenE ?_
          refine QE.blkH ?_
          refine QE.blkN ?_
          refine QE.next ?_
          refine CW.region ?_
          refine WP.s .n (O.mv rfl) ?_
          refine WP.s .n (O.add rfl rfl (c := ((i : Int) + 1)) (w64 (by omega))) ?_
          refine WP.s .n (O.asg rfl) ?_
          refine WP.nil ?_
          exact QE.round (i + 1) (by omega) ⟨by omega, fun j hj => if e : j = i then by subst e; exact ⟨by omega, fun hb k hk => hK hb k (by omega)⟩ else hA j (by omega)⟩ (Imp.cons rfl (Imp.cons rfl (Imp.consLe rfl (is_eq (y := (((i + 1) : Nat) : Int)) (by first | rfl | omega | assumption)) Imp.nil))) (OImp.refl _)
    · refine CW.exit ?_
      refine QE.thenE ?_
      refine QE.thenE ?_
      refine QE.blkH ?_
      refine QE.next ?_
      refine CW.seq ?_
      refine CW.seq ?_
      have hib : i = b.length := by omega
      subst hib
      have hne := rowsTo_end h_t10 hA
      refine CW.region ?_
      refine WP.s .n (O.mv rfl) ?_
      refine WP.s .n (O.lenS rfl Try.underlying67) ?_
      refine WP.s .n (O.eq rfl rfl) ?_
      refine WP.nil ?_
      refine QE.next ?_
      refine CW.condD rfl (fun h_t47 => ?_) (fun h_t47 => ?_)
      · refine CW.seq ?_
        refine CW.region ?_
        refine WP.s .n (O.asg rfl) ?_
        refine WP.nil ?_
        refine QE.next ?_
        refine CW.ret ?_
        refine QE.thenR ?_
        refine ST.told 4 rfl (is_eq (y := (gshape b bits)) (gshape_nil hne (by omega)).symm) ?_
        exact QE.done (.inl rfl) rfl (ResOk.t rfl ResOk.nil) (OImp.sub (List.nil_sublist _)) ⟨rfl, rfl⟩
      · refine CW.skip ?_
        refine QE.next ?_
        refine CW.seq ?_
        refine CW.seq ?_
        refine CW.region ?_
        refine WP.s .n (O.asg rfl) ?_
        refine WP.nil ?_
        refine QE.next ?_
        refine CW.block ?_
        refine CW.loop (fun (j : Nat) => j ≤ b.length ∧ ∀ l, l < j → (b.getD l []).length = (b.getD 0 []).length) (fun (j : Nat) => [(0, (kSl (kSl kZ)).is b), (1, kBool.is bits), (7, (kInt .i64).is (j : Int))]) (fun (j : Nat) => []) (fun (j : Nat) => b.length - j) 0 ⟨Nat.zero_le _, fun l hl => absurd hl (by omega)⟩ (Imp.cons rfl (Imp.cons rfl (Imp.consLe rfl (is_eq (y := (0 : Int)) (by first | rfl | omega | assumption)) Imp.nil))) (OImp.refl _) ?_
        intro j ⟨hj, hE⟩
        refine CW.seq ?_
        refine CW.seq ?_
        refine CW.region ?_
        refine WP.s .n (O.mv rfl) ?_
        refine WP.s .n (O.mv rfl) ?_
        refine WP.s .n (O.lenS rfl Try.underlying67) ?_
        refine WP.s .n (O.lt rfl rfl) ?_
        refine WP.nil ?_
        refine QE.next ?_
        refine CW.condD rfl (fun h_t51 => ?_) (fun h_t51 => ?_)
        · refine CW.skip ?_
          refine QE.next ?_
          refine CW.seq ?_
          refine CW.block ?_
          refine CW.seq ?_
          refine CW.draw (Γ := [.fr ((kSl (kSl kZ)).is b), .fr ((kInt .i64).is (j : Int)), .fr (VP.pim (kSl kZ) (b.getD j [])), .fr ((kSl kZ).is (b.getD j [])), .fr ((kInt .i64).is ((b.getD j []).length : Int)), .fr ((kSl (kSl kZ)).is b), .fr (VP.pim (kSl kZ) (b.getD 0 [])), .fr ((kSl kZ).is (b.getD 0 [])), .fr ((kInt .i64).is ((b.getD 0 []).length : Int)), .fr (kBool.is (decide (((b.getD j []).length : Int) ≠ ((b.getD 0 []).length : Int))))]) (lates := [false, false, false, false, false, false, false, false, false, false]) (by kernel_rfl) (Chk.of rfl (by kernel_rfl) rfl) (fun _ _ _ _ _ h => h) (fun q_ x_ h_ => ?_) (fun σ1 => ?_)
          · match q_, h_ with
            | 0, h_ => cases h_; exact Ob.f rfl .n fun N => (O.mv rfl)
            | 1, h_ => cases h_; exact Ob.f rfl .n fun N => (O.mv rfl)
            | 2, h_ => cases h_; exact Ob.f rfl .n fun N => (O.ix j rfl rfl Try.underlying67 ty27 rfl (v := (b.getD j [])) (gd [] (by omega)))
            | 3, h_ => cases h_; exact Ob.f rfl .n fun N => (O.ldP rfl ty27)
            | 4, h_ => cases h_; exact Ob.f rfl .n fun N => (O.lenS rfl Try.underlying27)
            | 5, h_ => cases h_; exact Ob.f rfl .n fun N => (O.mv rfl)
            | 6, h_ => cases h_; exact Ob.f rfl .n fun N => (O.ix 0 rfl rfl Try.underlying67 ty27 rfl (v := (b.getD 0 [])) (gd [] (by omega)))
            | 7, h_ => cases h_; exact Ob.f rfl .n fun N => (O.ldP rfl ty27)
            | 8, h_ => cases h_; exact Ob.f rfl .n fun N => (O.lenS rfl Try.underlying27)
            | 9, h_ => cases h_; exact Ob.f rfl .n fun N => (O.ne rfl rfl)
            | n_ + 10, h_ => simp at h_
          refine WP.nil ?_
          refine QE.next ?_
          refine CW.condD rfl (fun h_t63 => ?_) (fun h_t63 => ?_)
          · refine CW.seq ?_
            refine CW.region ?_
            refine WP.s .n (O.asg rfl) ?_
            refine WP.nil ?_
            refine QE.next ?_
            refine CW.ret ?_
            refine QE.blkR ?_
            refine QE.thenR ?_
            refine QE.thenR ?_
            refine QE.blkR ?_
            refine QE.thenR ?_
            refine ST.told 4 rfl (is_eq (y := (gshape b bits)) (by rw [gshape_else hne (by omega), (sh_no (i := j) (by omega) (by omega)).2.2])) ?_
            exact QE.done (.inl rfl) rfl (ResOk.t rfl ResOk.nil) (OImp.sub (List.nil_sublist _)) ⟨rfl, rfl⟩
          · refine CW.skip ?_
            refine QE.blkN ?_
            refine QE.next ?_
            refine CW.region ?_
            refine WP.s .n (O.mv rfl) ?_
            refine WP.s .n (O.add rfl rfl (c := ((j : Int) + 1)) (w64 (by omega))) ?_
            refine WP.s .n (O.asg rfl) ?_
            refine WP.nil ?_
            exact QE.round (j + 1) (by omega) ⟨by omega, fun l hl => if e : l = j then by subst e; omega else hE l (by omega)⟩ (Imp.cons rfl (Imp.cons rfl (Imp.consLe rfl (is_eq (y := (((j + 1) : Nat) : Int)) (by first | rfl | omega | assumption)) Imp.nil))) (OImp.refl _)
        · refine CW.exit ?_
          refine QE.thenE ?_
          refine QE.thenE ?_
          refine QE.blkH ?_
          refine QE.next ?_
          refine CW.seq ?_
          refine CW.region ?_
          refine WP.s .n (O.asg rfl) ?_
          refine WP.nil ?_
          refine QE.next ?_
          refine CW.ret ?_
          refine ST.told 4 rfl (is_eq (y := (gshape b bits)) (by rw [gshape_else hne (by omega), (sh_yes (fun l hl => hE l (by omega))).2.2])) ?_
          exact QE.done (.inl rfl) rfl (ResOk.t rfl ResOk.nil) (OImp.sub (List.nil_sublist _)) ⟨rfl, rfl⟩

end Fw


/- Gram-Schmidt data of the document. -/
set_option linter.unusedVariables false
set_option linter.unusedSimpArgs false
set_option exponentiation.threshold 400
namespace Fw
open Go Go.Proofs

set_option maxRecDepth 20000 in
set_option maxHeartbeats 1000000 in
theorem c_ref05_square (n : Nat) (p : Rat) (hp : RZ n p) (hn : n ≤ 68719476736) : Fn Try.prog 253 [(kPair kC kC).is (rq p)] ((kPair kC kC).is (rq (p * p))) := by
  refine Con.enter Try.func253 rfl rfl fun m w => ?_
  refine CW.seq ?_
  refine CW.region ?_
  refine WP.bx .n rfl fun b1 => ?_
  refine WP.al .n z60_pr_C_C_ fun b2 => ?_
  refine WP.nil ?_
  refine QE.next ?_
  refine CW.seq ?_
  refine CW.region ?_
  refine WP.s .n (O.ld rfl (mem_at 1 rfl) (Lens.id _) ty60 rfl) ?_
  refine WP.s .n (O.ld rfl (mem_at 1 rfl) (Lens.id _) ty60 rfl) ?_
  refine WP.s .n (O.fn fn248 (evs.c rfl (evs.c rfl evs.nil)) (c_ref03_Mul n p p (by assumption) (by assumption) (by assumption))) ?_
  refine WP.t .n (O.stW (l := (kPair kC kC)) (u := rq (p * p)) 0 rfl rfl rfl ty60 rfl (VP.le_refl _)) ?_
  refine WP.nil ?_
  refine QE.next ?_
  refine CW.ret ?_
  exact QE.done (.inl rfl) rfl (ResOk.c rfl (mem_at 0 rfl) ty60 ResOk.nil) (OImp.sub (List.nil_sublist _)) ⟨rfl, rfl⟩

set_option maxRecDepth 20000 in
set_option maxHeartbeats 1000000 in
theorem c_ref05_Make (n : Nat) (b : List (List Int)) (hb : SzM n b) (hr : RectL b) (hl : b.length ≤ 12) (hc : (b.getD 0 []).length ≤ 12) (hn : n ≤ 1048576) : Fn Try.prog 219 [(kSl (kSl kZ)).is b] (VP.tup [(kPair (kSl (kSl (kPair kC kC))) (kSl (kPair kC kC))).is (frV (gram b) b.length), kBool.is (gOk (gram b) b.length)]) := by
  refine Con.enter Try.func219 rfl rfl fun m w => ?_
  refine ST.fact (i := 0) rfl sl_len fun hB => ?_
  refine ST.fact (i := 0) rfl slsl_len fun hlc => ?_
  have hs := gram_symG hr
  have hz : ∀ i j, Sz (n + n + 12) (gram b i j) := fun i j => gram_Sz hb hr hc i j
  have hU : ∀ k, k ≤ 12 → szU (n + n + 12) k + 1 ≤ 8590000128 := fun k hk => by have := szU_eq (n + n + 12) k; have h2 : 2 ^ k ≤ 2 ^ 12 := Nat.pow_le_pow_right (by decide) hk; have h3 := Nat.mul_le_mul_right (n + n + 12 + 1) h2; omega
  refine CW.seq ?_
  refine CW.region ?_
  refine WP.al .n z197_pr_sl_sl_pr_C_C__sl_pr_C_C__ fun b1 => ?_
  refine WP.s .n (O.asg rfl) ?_
  refine WP.nil ?_
  refine QE.next ?_
  refine CW.seq ?_
  refine CW.region ?_
  refine WP.al .n z197_pr_val_val_ fun b2 => ?_
  refine WP.nil ?_
  refine QE.next ?_
  refine CW.seq ?_
  refine CW.seq ?_
  refine CW.region ?_
  refine WP.s .n (O.asg rfl) ?_
  refine WP.nil ?_
  refine QE.next ?_
  refine CW.block ?_
  refine ST.nilrow 60 (kPair kC kC) ?_
  refine ST.nilrow 195 (kSl (kPair kC kC)) ?_
  refine CW.loop3 (fun (i : Nat) (vM : Value) (vS : Value) => i ≤ b.length ∧ PosU (gram b) i) (fun (i : Nat) (vM : Value) (vS : Value) => [(0, (kSl (kSl kZ)).is b), (2, VP.ex (.pointer (some ⟨b1, 0, none⟩))), (3, kBool.is false), (4, VP.ex (.pointer (some ⟨b2, 0, none⟩))), (5, (kInt .i64).is (i : Int))]) (fun (i : Nat) (vM : Value) (vS : Value) => [OB.row vM 195 (kSl (kPair kC kC)) (frMus (gram b) i), OB.row vS 60 (kPair kC kC) (frSts (gram b) i), OB.box b2 197 (kPair kVal kVal) (vM, vS), OB.box b1 197 (kPair (kSl (kSl (kPair kC kC))) (kSl (kPair kC kC))) ([], [])]) (fun (i : Nat) (vM : Value) (vS : Value) => b.length - i) 0 (.slice none 0 0) (.slice none 0 0) ⟨Nat.zero_le _, fun l hl => absurd hl (by omega)⟩ (Imp.cons rfl (Imp.cons rfl (Imp.cons rfl (Imp.cons rfl (Imp.consLe rfl (is_eq (y := (0 : Int)) (by first | rfl | omega | assumption)) Imp.nil))))) (OImp.os (OS.keepLe (OB.row_eq (by first | rfl | omega | assumption)) (OS.keepLe (OB.row_eq (by first | rfl | omega | assumption)) (OS.keep (OS.keep OS.nil))))) ?_
  intro i vM vS ⟨hi, hP⟩
  refine CW.seq ?_
  refine CW.seq ?_
  refine CW.region ?_
  refine WP.s .n (O.mv rfl) ?_
  refine WP.s .n (O.mv rfl) ?_
  refine WP.s .n (O.lenS rfl Try.underlying67) ?_
  refine WP.s .n (O.lt rfl rfl) ?_
  refine WP.nil ?_
  refine QE.next ?_
  refine CW.condD rfl (fun h_t15 => ?_) (fun h_t15 => ?_)
  · refine CW.skip ?_
    refine QE.next ?_
    refine CW.seq ?_
    refine CW.block ?_
    refine CW.seq ?_
    refine CW.region ?_
    refine WP.s .n (O.asg rfl) ?_
    refine WP.nil ?_
    refine QE.next ?_
    refine CW.seq ?_
    refine CW.seq ?_
    refine CW.region ?_
    refine WP.s .n (O.asg rfl) ?_
    refine WP.nil ?_
    refine QE.next ?_
    refine CW.block ?_
    refine ST.nilrow 60 (kPair kC kC) ?_
    have hE : ∀ k j, k ≤ i → k ≤ j → RZ 8590000128 (gsE (qG (gram b)) k i j) := fun k j hk hj => (frE_RZ hs hz hP hk hk hj).up (hU k (by omega))
    have hS : ∀ k, k < i → RZ 8590000128 (frS (gram b) k) := fun k hk => (frE_RZ hs hz hP (by omega) (Nat.le_refl k) (Nat.le_refl k)).up (hU k (by omega))
    have hM : ∀ x k, k < i → k ≤ x → RZ 8590000128 (frM (gram b) x k) := fun x k hk hx => (frM_RZ hs hz hP hk hx).up (hU k (by omega))
    refine CW.loop2 (fun (j : Nat) (v : Value) => j ≤ i) (fun (j : Nat) (v : Value) => [(0, (kSl (kSl kZ)).is b), (2, VP.ex (.pointer (some ⟨b1, 0, none⟩))), (3, kBool.is false), (4, VP.ex (.pointer (some ⟨b2, 0, none⟩))), (5, (kInt .i64).is (i : Int)), (6, VP.ex v), (7, (kInt .i64).is (j : Int))]) (fun (j : Nat) (v : Value) => [OB.row v 60 (kPair kC kC) (frRow (gram b) i j), OB.row vM 195 (kSl (kPair kC kC)) (frMus (gram b) i), OB.row vS 60 (kPair kC kC) (frSts (gram b) i), OB.box b2 197 (kPair kVal kVal) (vM, vS), OB.box b1 197 (kPair (kSl (kSl (kPair kC kC))) (kSl (kPair kC kC))) ([], [])]) (fun (j : Nat) (v : Value) => i - j) 0 (.slice none 0 0) (by omega) (Imp.cons rfl (Imp.cons rfl (Imp.cons rfl (Imp.cons rfl (Imp.cons rfl (Imp.cons rfl (Imp.consLe rfl (is_eq (y := (0 : Int)) (by first | rfl | omega | assumption)) Imp.nil))))))) (OImp.os (OS.keepLe (OB.row_eq (by first | rfl | omega | assumption)) (OS.keep (OS.keep (OS.keep (OS.keep OS.nil)))))) ?_
    intro j v hj
    refine CW.seq ?_
    refine CW.seq ?_
    refine CW.region ?_
    refine WP.s .n (O.mv rfl) ?_
    refine WP.s .n (O.mv rfl) ?_
    refine WP.s .n (O.lt rfl rfl) ?_
    refine WP.nil ?_
    refine QE.next ?_
    refine CW.condD rfl (fun h_t20 => ?_) (fun h_t20 => ?_)
    · refine CW.skip ?_
      refine QE.next ?_
      refine CW.seq ?_
      refine CW.block ?_
      refine CW.seq ?_
      refine CW.draw (Γ := [.fr ((kSl (kSl kZ)).is b), .fr ((kInt .i64).is (i : Int)), .fr (VP.pim (kSl kZ) (b.getD i [])), .fr ((kSl kZ).is (b.getD i [])), .fr ((kSl (kSl kZ)).is b), .fr ((kInt .i64).is (j : Int)), .fr (VP.pim (kSl kZ) (b.getD j [])), .fr ((kSl kZ).is (b.getD j [])), .fr (kC.is (dotV (b.getD i []) (b.getD j []))), .fr ((kPair kC kC).is (rq (gsE (qG (gram b)) 0 i j))), .al (fun b => OB.box b 60 (kPair kC kC) (0, 0))]) (lates := [false, false, false, false, false, false, false, false, false, false, false]) (by kernel_rfl) (Chk.of rfl (by kernel_rfl) rfl) (fun _ _ _ _ _ h => h) (fun q_ x_ h_ => ?_) (fun σ1 => ?_)
      · match q_, h_ with
        | 0, h_ => cases h_; exact Ob.f rfl .n fun N => (O.mv rfl)
        | 1, h_ => cases h_; exact Ob.f rfl .n fun N => (O.mv rfl)
        | 2, h_ => cases h_; exact Ob.f rfl .n fun N => (O.ix i rfl rfl Try.underlying67 ty27 rfl (v := (b.getD i [])) (gd [] (by first | omega | (simp only [frRow_len, frMus_len, frSts_len]; omega))))
        | 3, h_ => cases h_; exact Ob.f rfl .n fun N => (O.ldP rfl ty27)
        | 4, h_ => cases h_; exact Ob.f rfl .n fun N => (O.mv rfl)
        | 5, h_ => cases h_; exact Ob.f rfl .n fun N => (O.mv rfl)
        | 6, h_ => cases h_; exact Ob.f rfl .n fun N => (O.ix j rfl rfl Try.underlying67 ty27 rfl (v := (b.getD j [])) (gd [] (by first | omega | (simp only [frRow_len, frMus_len, frSts_len]; omega))))
        | 7, h_ => cases h_; exact Ob.f rfl .n fun N => (O.ldP rfl ty27)
        | 8, h_ => cases h_; exact Ob.f rfl .n fun N => (O.fn fn251 (evs.c rfl (evs.c rfl evs.nil)) (c_ref05_Dot n (b.getD i []) (b.getD j []) (hb i) (hb j) (by have := row_le hr hc i; omega) (by rw [hr i (by omega), hr j (by omega)]; exact Nat.le_refl _)))
        | 9, h_ => cases h_; exact Ob.f rfl .n fun N => (OpOk.le (O.fn fn245 (evs.l rfl (kC_Z (by first | exact hSi.a.sm (by omega) | exact (hz i j).sm (by omega) | exact (hz i i).sm (by omega))) evs.nil) (c_ref03_Of (dotV (b.getD i []) (b.getD j [])))) (is_eq rfl))
        | 10, h_ => cases h_; exact Ob.a rfl z60_pr_C_C_
        | n_ + 11, h_ => simp at h_
      refine WP.t .n (O.stW (l := (kPair kC kC)) (u := rq (gsE (qG (gram b)) 0 i j)) 0 rfl rfl rfl ty60 rfl (VP.le_refl _)) ?_
      refine WP.nil ?_
      refine QE.next ?_
      refine CW.seq ?_
      refine CW.seq ?_
      refine CW.region ?_
      refine WP.s .n (O.asg rfl) ?_
      refine WP.nil ?_
      refine QE.next ?_
      refine CW.block ?_
      refine CW.loop2 (fun (k : Nat) (p : Nat) => k ≤ j) (fun (k : Nat) (p : Nat) => [(0, (kSl (kSl kZ)).is b), (2, VP.ex (.pointer (some ⟨b1, 0, none⟩))), (3, kBool.is false), (4, VP.ex (.pointer (some ⟨b2, 0, none⟩))), (5, (kInt .i64).is (i : Int)), (6, VP.ex v), (7, (kInt .i64).is (j : Int)), (8, VP.ex (.pointer (some ⟨p, 0, none⟩))), (9, (kInt .i64).is (k : Int))]) (fun (k : Nat) (p : Nat) => [OB.box p 60 (kPair kC kC) (rq (gsE (qG (gram b)) k i j)), OB.row v 60 (kPair kC kC) (frRow (gram b) i j), OB.row vM 195 (kSl (kPair kC kC)) (frMus (gram b) i), OB.row vS 60 (kPair kC kC) (frSts (gram b) i), OB.box b2 197 (kPair kVal kVal) (vM, vS), OB.box b1 197 (kPair (kSl (kSl (kPair kC kC))) (kSl (kPair kC kC))) ([], [])]) (fun (k : Nat) (p : Nat) => j - k) 0 (σ1 10) (by omega) (Imp.cons rfl (Imp.cons rfl (Imp.cons rfl (Imp.cons rfl (Imp.cons rfl (Imp.cons rfl (Imp.cons rfl (Imp.cons rfl (Imp.consLe rfl (is_eq (y := (0 : Int)) (by first | rfl | omega | assumption)) Imp.nil))))))))) (OImp.refl _) ?_
      intro k p hk
      refine CW.seq ?_
      refine CW.seq ?_
      refine CW.region ?_
      refine WP.s .n (O.mv rfl) ?_
      refine WP.s .n (O.mv rfl) ?_
      refine WP.s .n (O.lt rfl rfl) ?_
      refine WP.nil ?_
      refine QE.next ?_
      refine CW.condD rfl (fun h_t35 => ?_) (fun h_t35 => ?_)
      · refine CW.skip ?_
        refine QE.next ?_
        refine CW.seq ?_
        refine CW.block ?_
        refine CW.draw (Γ := [.fr ((kPair kC kC).is (rq (gsE (qG (gram b)) k i j))), .fr (VP.ex (.pointer (some ⟨b2, 0, none⟩))), .fr (VP.ex vM), .fr ((kInt .i64).is (j : Int)), .fr (VP.pel vM (j * 1)), .fr ((kSl (kPair kC kC)).is ((frMus (gram b) i).getD j [])), .fr ((kInt .i64).is (k : Int)), .fr (VP.pim (kPair kC kC) (rq (frM (gram b) j k))), .fr ((kPair kC kC).is (rq (frM (gram b) j k))), .fr (VP.ex v), .fr ((kInt .i64).is (k : Int)), .fr (VP.pel v (k * 4)), .fr ((kPair kC kC).is (rq (frM (gram b) i k))), .fr ((kPair kC kC).is (rq ((frM (gram b) j k) * (frM (gram b) i k)))), .fr (VP.ex (.pointer (some ⟨b2, 1, none⟩))), .fr (VP.ex vS), .fr ((kInt .i64).is (k : Int)), .fr (VP.pel vS (k * 4)), .fr ((kPair kC kC).is (rq (frS (gram b) k))), .fr ((kPair kC kC).is (rq ((frM (gram b) j k * frM (gram b) i k) * (frS (gram b) k)))), .fr ((kPair kC kC).is (rq ((gsE (qG (gram b)) k i j) - (frM (gram b) j k * frM (gram b) i k * frS (gram b) k))))]) (lates := [false, false, false, false, false, false, false, false, false, false, false, false, false, false, false, false, false, false, false, false, false]) (by kernel_rfl) (Chk.of rfl (by kernel_rfl) rfl) (fun _ _ _ _ _ h => h) (fun q_ x_ h_ => ?_) (fun σ2 => ?_)
        · match q_, h_ with
          | 0, h_ => cases h_; exact Ob.f rfl .n fun N => (O.ld rfl (mem_app N (mem_at 0 rfl)) (Lens.id _) ty60 rfl)
          | 1, h_ => cases h_; exact Ob.f rfl .n fun N => (O.fa rfl fld197_0 rfl)
          | 2, h_ => cases h_; exact Ob.f rfl .n fun N => (OpOk.le (O.ld (p := kVal.is vM) rfl (mem_app N (mem_at 4 rfl)) (Lens.fst (Lens.id _)) ty194 rfl) (val_ex _))
          | 3, h_ => cases h_; exact Ob.f rfl .n fun N => (O.mv rfl)
          | 4, h_ => cases h_; exact Ob.f rfl .n fun N => (O.ixR (k := (kSl (kPair kC kC))) (xs := (frMus (gram b) i)) (n := (j : Int)) j rfl rfl (mem_app N (mem_at 2 rfl)) Try.underlying194 ty195 rfl (by first | omega | (simp only [frRow_len, frMus_len, frSts_len]; omega)))
          | 5, h_ => cases h_; exact Ob.f rfl .n fun N => (O.ldR j rfl (mem_app N (mem_at 2 rfl)) (Lens.id _) rfl (y := ((frMus (gram b) i).getD j [])) (gd [] (by first | omega | (simp only [frRow_len, frMus_len, frSts_len]; omega))) ty195 rfl)
          | 6, h_ => cases h_; exact Ob.f rfl .n fun N => (O.mv rfl)
          | 7, h_ => cases h_; exact Ob.f rfl .n fun N => (O.ix k rfl rfl Try.underlying195 ty60 rfl (v := (rq (frM (gram b) j k))) (frMus_at (by omega) (by omega)))
          | 8, h_ => cases h_; exact Ob.f rfl .n fun N => (O.ldP rfl ty60)
          | 9, h_ => cases h_; exact Ob.f rfl .n fun N => (O.mv rfl)
          | 10, h_ => cases h_; exact Ob.f rfl .n fun N => (O.mv rfl)
          | 11, h_ => cases h_; exact Ob.f rfl .n fun N => (O.ixR (k := (kPair kC kC)) (xs := (frRow (gram b) i j)) (n := (k : Int)) k rfl rfl (mem_app N (mem_at 1 rfl)) Try.underlying195 ty60 rfl (by first | omega | (simp only [frRow_len, frMus_len, frSts_len]; omega)))
          | 12, h_ => cases h_; exact Ob.f rfl .n fun N => (O.ldR (k := (kPair kC kC)) (xs := (frRow (gram b) i j)) k rfl (mem_app N (mem_at 1 rfl)) (Lens.id _) (ho := rfl) (y := (rq (frM (gram b) i k))) (frRow_at (by omega)) ty60 rfl)
          | 13, h_ => cases h_; exact Ob.f rfl .n fun N => (O.fn fn248 (evs.c rfl (evs.c rfl evs.nil)) (c_ref03_Mul 8590000128 (frM (gram b) j k) (frM (gram b) i k) (hM j k (by omega) (by omega)) (hM i k (by omega) (by omega)) (by first | assumption | omega)))
          | 14, h_ => cases h_; exact Ob.f rfl .n fun N => (O.fa rfl fld197_1 rfl)
          | 15, h_ => cases h_; exact Ob.f rfl .n fun N => (OpOk.le (O.ld (p := kVal.is vS) rfl (mem_app N (mem_at 4 rfl)) (Lens.snd (Lens.id _)) ty195 rfl) (val_ex _))
          | 16, h_ => cases h_; exact Ob.f rfl .n fun N => (O.mv rfl)
          | 17, h_ => cases h_; exact Ob.f rfl .n fun N => (O.ixR (k := (kPair kC kC)) (xs := (frSts (gram b) i)) (n := (k : Int)) k rfl rfl (mem_app N (mem_at 3 rfl)) Try.underlying195 ty60 rfl (by first | omega | (simp only [frRow_len, frMus_len, frSts_len]; omega)))
          | 18, h_ => cases h_; exact Ob.f rfl .n fun N => (O.ldR (k := (kPair kC kC)) (xs := (frSts (gram b) i)) k rfl (mem_app N (mem_at 3 rfl)) (Lens.id _) (ho := rfl) (y := (rq (frS (gram b) k))) (frSts_at (by omega)) ty60 rfl)
          | 19, h_ => cases h_; exact Ob.f rfl .n fun N => (O.fn fn248 (evs.l rfl (is_eq (y := rq (frM (gram b) j k * frM (gram b) i k)) (by first | rfl | omega | assumption)) (evs.c rfl evs.nil)) (c_ref03_Mul 17180000256 (frM (gram b) j k * frM (gram b) i k) (frS (gram b) k) ((hM j k (by omega) (by omega)).mul (hM i k (by omega) (by omega))) ((hS k (by omega)).up (by omega)) (by first | assumption | omega)))
          | 20, h_ => cases h_; exact Ob.f rfl .n fun N => (O.fn fn252 (evs.c rfl (evs.l rfl (is_eq (y := rq (frM (gram b) j k * frM (gram b) i k * frS (gram b) k)) (by first | rfl | omega | assumption)) evs.nil)) (c_ref03_Sub 25770000384 (gsE (qG (gram b)) k i j) (frM (gram b) j k * frM (gram b) i k * frS (gram b) k) ((hE k j (by omega) (by omega)).up (by omega)) (((hM j k (by omega) (by omega)).mul (hM i k (by omega) (by omega))).mul (hS k (by omega))) (by first | assumption | omega)))
          | n_ + 21, h_ => simp at h_
        refine WP.t .n (O.stW (l := (kPair kC kC)) (u := rq ((gsE (qG (gram b)) k i j) - (frM (gram b) j k * frM (gram b) i k * frS (gram b) k))) 0 rfl rfl rfl ty60 rfl (VP.le_refl _)) ?_
        refine WP.nil ?_
        refine QE.blkN ?_
        refine QE.next ?_
        refine CW.region ?_
        refine WP.s .n (O.mv rfl) ?_
        refine WP.s .n (O.add rfl rfl (c := ((k : Int) + 1)) (w64 (by omega))) ?_
        refine WP.s .n (O.asg rfl) ?_
        refine WP.nil ?_
        refine ST.obtold 0 rfl (OB.box_eq (y := (rq (gsE (qG (gram b)) (k + 1) i j))) (by rw [fr_step hs (hP.le (by omega))])) ?_
        exact QE.round2 (k + 1) p (by omega) (by omega) (Imp.cons rfl (Imp.cons rfl (Imp.cons rfl (Imp.cons rfl (Imp.cons rfl (Imp.cons rfl (Imp.cons rfl (Imp.cons rfl (Imp.consLe rfl (is_eq (y := (((k + 1) : Nat) : Int)) (by first | rfl | omega | assumption)) Imp.nil))))))))) (OImp.refl _)
      · refine CW.exit ?_
        refine QE.thenE ?_
        refine QE.thenE ?_
        refine QE.blkH ?_
        refine QE.next ?_
        refine ST.obtold 0 rfl (OB.box_eq (y := (rq (gsE (qG (gram b)) j i j))) (by rw [show k = j by omega])) ?_
        refine CW.draw (Γ := [.fr (VP.ex v), .fr ((kPair kC kC).is (rq (gsE (qG (gram b)) j i j))), .fr (VP.ex (.pointer (some ⟨b2, 1, none⟩))), .fr (VP.ex vS), .fr ((kInt .i64).is (j : Int)), .fr (VP.pel vS (j * 4)), .fr ((kPair kC kC).is (rq (frS (gram b) j))), .fr ((kPair kC kC).is (rq ((gsE (qG (gram b)) j i j) / (frS (gram b) j)))), .fr ((kSl (kPair kC kC)).is [rq ((gsE (qG (gram b)) j i j) / (frS (gram b) j))])]) (lates := [false, false, false, false, false, false, false, false, false]) (by kernel_rfl) (Chk.of rfl (by kernel_rfl) rfl) (fun _ _ _ _ _ h => h) (fun q_ x_ h_ => ?_) (fun σ3 => ?_)
        · match q_, h_ with
          | 0, h_ => cases h_; exact Ob.f rfl .n fun N => (O.mv rfl)
          | 1, h_ => cases h_; exact Ob.f rfl .n fun N => (O.ld rfl (mem_app N (mem_at 0 rfl)) (Lens.id _) ty60 rfl)
          | 2, h_ => cases h_; exact Ob.f rfl .n fun N => (O.fa rfl fld197_1 rfl)
          | 3, h_ => cases h_; exact Ob.f rfl .n fun N => (OpOk.le (O.ld (p := kVal.is vS) rfl (mem_app N (mem_at 4 rfl)) (Lens.snd (Lens.id _)) ty195 rfl) (val_ex _))
          | 4, h_ => cases h_; exact Ob.f rfl .n fun N => (O.mv rfl)
          | 5, h_ => cases h_; exact Ob.f rfl .n fun N => (O.ixR (k := (kPair kC kC)) (xs := (frSts (gram b) i)) (n := (j : Int)) j rfl rfl (mem_app N (mem_at 3 rfl)) Try.underlying195 ty60 rfl (by first | omega | (simp only [frRow_len, frMus_len, frSts_len]; omega)))
          | 6, h_ => cases h_; exact Ob.f rfl .n fun N => (O.ldR (k := (kPair kC kC)) (xs := (frSts (gram b) i)) j rfl (mem_app N (mem_at 3 rfl)) (Lens.id _) (ho := rfl) (y := (rq (frS (gram b) j))) (frSts_at (by omega)) ty60 rfl)
          | 7, h_ => cases h_; exact Ob.f rfl .n fun N => (O.fn fn249 (evs.c rfl (evs.c rfl evs.nil)) (c_ref03_Div 8590000128 (gsE (qG (gram b)) j i j) (frS (gram b) j) (hE j j (by omega) (by omega)) (hS j (by omega)) (by first | assumption | omega) (frS_ne hs (hP.le (by omega)))))
          | 8, h_ => cases h_; exact Ob.f rfl .n fun N => (O.bs Try.underlying195 el60_pr_C_C_ (evl.c rfl evl.n) rfl (by decide))
          | n_ + 9, h_ => simp at h_
        refine WP.ap 1 .n rfl rfl rfl (VP.le_refl _) Try.underlying195 el60_pr_C_C_ (by simp only [frRow_len, frMus_len, frSts_len, List.length_cons, List.length_nil]; omega) fun v3 => ?_
        refine WP.s .n (O.asg rfl) ?_
        refine WP.nil ?_
        refine QE.blkN ?_
        refine QE.next ?_
        refine CW.region ?_
        refine WP.s .n (O.mv rfl) ?_
        refine WP.s .n (O.add rfl rfl (c := ((j : Int) + 1)) (w64 (by omega))) ?_
        refine WP.s .n (O.asg rfl) ?_
        refine WP.nil ?_
        refine ST.obtold 1 rfl (OB.row_eq (ys := (frRow (gram b) i (j + 1))) (frRow_app (gram b) i j)) ?_
        exact QE.round2 (j + 1) v3 (by omega) (by omega) (Imp.cons rfl (Imp.cons rfl (Imp.cons rfl (Imp.cons rfl (Imp.cons rfl (Imp.cons rfl (Imp.consLe rfl (is_eq (y := (((j + 1) : Nat) : Int)) (by first | rfl | omega | assumption)) Imp.nil))))))) (OImp.os (OS.skip (OS.keep (OS.keep (OS.keep (OS.keep (OS.keep OS.nil)))))))
    · refine CW.exit ?_
      refine QE.thenE ?_
      refine QE.thenE ?_
      refine QE.blkH ?_
      refine QE.next ?_
      refine CW.seq ?_
      refine ST.obtold 0 rfl (OB.row_eq (ys := (frRow (gram b) i i)) (by rw [show j = i by omega])) ?_
      refine CW.draw (Γ := [.fr ((kSl (kSl kZ)).is b), .fr ((kInt .i64).is (i : Int)), .fr (VP.pim (kSl kZ) (b.getD i [])), .fr ((kSl kZ).is (b.getD i [])), .fr ((kSl (kSl kZ)).is b), .fr ((kInt .i64).is (i : Int)), .fr (VP.pim (kSl kZ) (b.getD i [])), .fr ((kSl kZ).is (b.getD i [])), .fr (kC.is (dotV (b.getD i []) (b.getD i []))), .fr ((kPair kC kC).is (rq (gsE (qG (gram b)) 0 i i))), .al (fun b => OB.box b 60 (kPair kC kC) (0, 0))]) (lates := [false, false, false, false, false, false, false, false, false, false, false]) (by kernel_rfl) (Chk.of rfl (by kernel_rfl) rfl) (fun _ _ _ _ _ h => h) (fun q_ x_ h_ => ?_) (fun σ4 => ?_)
      · match q_, h_ with
        | 0, h_ => cases h_; exact Ob.f rfl .n fun N => (O.mv rfl)
        | 1, h_ => cases h_; exact Ob.f rfl .n fun N => (O.mv rfl)
        | 2, h_ => cases h_; exact Ob.f rfl .n fun N => (O.ix i rfl rfl Try.underlying67 ty27 rfl (v := (b.getD i [])) (gd [] (by first | omega | (simp only [frRow_len, frMus_len, frSts_len]; omega))))
        | 3, h_ => cases h_; exact Ob.f rfl .n fun N => (O.ldP rfl ty27)
        | 4, h_ => cases h_; exact Ob.f rfl .n fun N => (O.mv rfl)
        | 5, h_ => cases h_; exact Ob.f rfl .n fun N => (O.mv rfl)
        | 6, h_ => cases h_; exact Ob.f rfl .n fun N => (O.ix i rfl rfl Try.underlying67 ty27 rfl (v := (b.getD i [])) (gd [] (by first | omega | (simp only [frRow_len, frMus_len, frSts_len]; omega))))
        | 7, h_ => cases h_; exact Ob.f rfl .n fun N => (O.ldP rfl ty27)
        | 8, h_ => cases h_; exact Ob.f rfl .n fun N => (O.fn fn251 (evs.c rfl (evs.c rfl evs.nil)) (c_ref05_Dot n (b.getD i []) (b.getD i []) (hb i) (hb i) (by have := row_le hr hc i; omega) (Nat.le_refl _)))
        | 9, h_ => cases h_; exact Ob.f rfl .n fun N => (OpOk.le (O.fn fn245 (evs.l rfl (kC_Z (by first | exact hSi.a.sm (by omega) | exact (hz i j).sm (by omega) | exact (hz i i).sm (by omega))) evs.nil) (c_ref03_Of (dotV (b.getD i []) (b.getD i [])))) (is_eq rfl))
        | 10, h_ => cases h_; exact Ob.a rfl z60_pr_C_C_
        | n_ + 11, h_ => simp at h_
      refine WP.t .n (O.stW (l := (kPair kC kC)) (u := rq (gsE (qG (gram b)) 0 i i)) 0 rfl rfl rfl ty60 rfl (VP.le_refl _)) ?_
      refine WP.nil ?_
      refine QE.next ?_
      refine CW.seq ?_
      refine CW.seq ?_
      refine CW.region ?_
      refine WP.s .n (O.asg rfl) ?_
      refine WP.nil ?_
      refine QE.next ?_
      refine CW.block ?_
      refine CW.loop2 (fun (l : Nat) (p : Nat) => l ≤ i) (fun (l : Nat) (p : Nat) => [(0, (kSl (kSl kZ)).is b), (2, VP.ex (.pointer (some ⟨b1, 0, none⟩))), (3, kBool.is false), (4, VP.ex (.pointer (some ⟨b2, 0, none⟩))), (5, (kInt .i64).is (i : Int)), (6, VP.ex v), (10, VP.ex (.pointer (some ⟨p, 0, none⟩))), (11, (kInt .i64).is (l : Int))]) (fun (l : Nat) (p : Nat) => [OB.box p 60 (kPair kC kC) (rq (gsE (qG (gram b)) l i i)), OB.row v 60 (kPair kC kC) (frRow (gram b) i i), OB.row vM 195 (kSl (kPair kC kC)) (frMus (gram b) i), OB.row vS 60 (kPair kC kC) (frSts (gram b) i), OB.box b2 197 (kPair kVal kVal) (vM, vS), OB.box b1 197 (kPair (kSl (kSl (kPair kC kC))) (kSl (kPair kC kC))) ([], [])]) (fun (l : Nat) (p : Nat) => i - l) 0 (σ4 10) (by omega) (Imp.cons rfl (Imp.cons rfl (Imp.cons rfl (Imp.cons rfl (Imp.cons rfl (Imp.cons rfl (Imp.cons rfl (Imp.consLe rfl (is_eq (y := (0 : Int)) (by first | rfl | omega | assumption)) Imp.nil)))))))) (OImp.refl _) ?_
      intro l p hl2
      refine CW.seq ?_
      refine CW.seq ?_
      refine CW.region ?_
      refine WP.s .n (O.mv rfl) ?_
      refine WP.s .n (O.mv rfl) ?_
      refine WP.s .n (O.lt rfl rfl) ?_
      refine WP.nil ?_
      refine QE.next ?_
      refine CW.condD rfl (fun h_t81 => ?_) (fun h_t81 => ?_)
      · refine CW.skip ?_
        refine QE.next ?_
        refine CW.seq ?_
        refine CW.block ?_
        refine CW.draw (Γ := [.fr ((kPair kC kC).is (rq (gsE (qG (gram b)) l i i))), .fr (VP.ex v), .fr ((kInt .i64).is (l : Int)), .fr (VP.pel v (l * 4)), .fr ((kPair kC kC).is (rq (frM (gram b) i l))), .fr ((kPair kC kC).is (rq ((frM (gram b) i l) * (frM (gram b) i l)))), .fr (VP.ex (.pointer (some ⟨b2, 1, none⟩))), .fr (VP.ex vS), .fr ((kInt .i64).is (l : Int)), .fr (VP.pel vS (l * 4)), .fr ((kPair kC kC).is (rq (frS (gram b) l))), .fr ((kPair kC kC).is (rq ((frM (gram b) i l * frM (gram b) i l) * (frS (gram b) l)))), .fr ((kPair kC kC).is (rq ((gsE (qG (gram b)) l i i) - (frM (gram b) i l * frM (gram b) i l * frS (gram b) l))))]) (lates := [false, false, false, false, false, false, false, false, false, false, false, false, false]) (by kernel_rfl) (Chk.of rfl (by kernel_rfl) rfl) (fun _ _ _ _ _ h => h) (fun q_ x_ h_ => ?_) (fun σ5 => ?_)
        · match q_, h_ with
          | 0, h_ => cases h_; exact Ob.f rfl .n fun N => (O.ld rfl (mem_app N (mem_at 0 rfl)) (Lens.id _) ty60 rfl)
          | 1, h_ => cases h_; exact Ob.f rfl .n fun N => (O.mv rfl)
          | 2, h_ => cases h_; exact Ob.f rfl .n fun N => (O.mv rfl)
          | 3, h_ => cases h_; exact Ob.f rfl .n fun N => (O.ixR (k := (kPair kC kC)) (xs := (frRow (gram b) i i)) (n := (l : Int)) l rfl rfl (mem_app N (mem_at 1 rfl)) Try.underlying195 ty60 rfl (by first | omega | (simp only [frRow_len, frMus_len, frSts_len]; omega)))
          | 4, h_ => cases h_; exact Ob.f rfl .n fun N => (O.ldR (k := (kPair kC kC)) (xs := (frRow (gram b) i i)) l rfl (mem_app N (mem_at 1 rfl)) (Lens.id _) (ho := rfl) (y := (rq (frM (gram b) i l))) (frRow_at (by omega)) ty60 rfl)
          | 5, h_ => cases h_; exact Ob.f rfl .n fun N => (O.fn fn253 (evs.c rfl evs.nil) (c_ref05_square 8590000128 (frM (gram b) i l) (hM i l (by omega) (by omega)) (by first | assumption | omega)))
          | 6, h_ => cases h_; exact Ob.f rfl .n fun N => (O.fa rfl fld197_1 rfl)
          | 7, h_ => cases h_; exact Ob.f rfl .n fun N => (OpOk.le (O.ld (p := kVal.is vS) rfl (mem_app N (mem_at 4 rfl)) (Lens.snd (Lens.id _)) ty195 rfl) (val_ex _))
          | 8, h_ => cases h_; exact Ob.f rfl .n fun N => (O.mv rfl)
          | 9, h_ => cases h_; exact Ob.f rfl .n fun N => (O.ixR (k := (kPair kC kC)) (xs := (frSts (gram b) i)) (n := (l : Int)) l rfl rfl (mem_app N (mem_at 3 rfl)) Try.underlying195 ty60 rfl (by first | omega | (simp only [frRow_len, frMus_len, frSts_len]; omega)))
          | 10, h_ => cases h_; exact Ob.f rfl .n fun N => (O.ldR (k := (kPair kC kC)) (xs := (frSts (gram b) i)) l rfl (mem_app N (mem_at 3 rfl)) (Lens.id _) (ho := rfl) (y := (rq (frS (gram b) l))) (frSts_at (by omega)) ty60 rfl)
          | 11, h_ => cases h_; exact Ob.f rfl .n fun N => (O.fn fn248 (evs.l rfl (is_eq (y := rq (frM (gram b) i l * frM (gram b) i l)) (by first | rfl | omega | assumption)) (evs.c rfl evs.nil)) (c_ref03_Mul 17180000256 (frM (gram b) i l * frM (gram b) i l) (frS (gram b) l) ((hM i l (by omega) (by omega)).mul (hM i l (by omega) (by omega))) ((hS l (by omega)).up (by omega)) (by first | assumption | omega)))
          | 12, h_ => cases h_; exact Ob.f rfl .n fun N => (O.fn fn252 (evs.c rfl (evs.l rfl (is_eq (y := rq (frM (gram b) i l * frM (gram b) i l * frS (gram b) l)) (by first | rfl | omega | assumption)) evs.nil)) (c_ref03_Sub 25770000384 (gsE (qG (gram b)) l i i) (frM (gram b) i l * frM (gram b) i l * frS (gram b) l) ((hE l i (by omega) (by omega)).up (by omega)) (((hM i l (by omega) (by omega)).mul (hM i l (by omega) (by omega))).mul (hS l (by omega))) (by first | assumption | omega)))
          | n_ + 13, h_ => simp at h_
        refine WP.t .n (O.stW (l := (kPair kC kC)) (u := rq ((gsE (qG (gram b)) l i i) - (frM (gram b) i l * frM (gram b) i l * frS (gram b) l))) 0 rfl rfl rfl ty60 rfl (VP.le_refl _)) ?_
        refine WP.nil ?_
        refine QE.blkN ?_
        refine QE.next ?_
        refine CW.region ?_
        refine WP.s .n (O.mv rfl) ?_
        refine WP.s .n (O.add rfl rfl (c := ((l : Int) + 1)) (w64 (by omega))) ?_
        refine WP.s .n (O.asg rfl) ?_
        refine WP.nil ?_
        refine ST.obtold 0 rfl (OB.box_eq (y := (rq (gsE (qG (gram b)) (l + 1) i i))) (by rw [fr_step hs (hP.le (by omega))])) ?_
        exact QE.round2 (l + 1) p (by omega) (by omega) (Imp.cons rfl (Imp.cons rfl (Imp.cons rfl (Imp.cons rfl (Imp.cons rfl (Imp.cons rfl (Imp.cons rfl (Imp.consLe rfl (is_eq (y := (((l + 1) : Nat) : Int)) (by first | rfl | omega | assumption)) Imp.nil)))))))) (OImp.refl _)
      · refine CW.exit ?_
        refine QE.thenE ?_
        refine QE.thenE ?_
        refine QE.blkH ?_
        refine QE.next ?_
        refine CW.seq ?_
        refine CW.seq ?_
        have hSi : RZ 8590000128 (frS (gram b) i) := (frE_RZ hs hz hP (Nat.le_refl i) (Nat.le_refl i) (Nat.le_refl i)).up (hU i (by omega))
        refine ST.obtold 0 rfl (OB.box_eq (y := (rq (frS (gram b) i))) (by rw [show l = i by omega]; rfl)) ?_
        refine CW.region ?_
        refine WP.s .n (O.fa rfl fld60_0 rfl) ?_
        refine WP.s .n (O.ld rfl (mem_at 0 rfl) (Lens.fst (Lens.id _)) ty31 rfl) ?_
        refine WP.s .n (O.fn fn83 (evs.l rfl (kC_Z (by first | exact hSi.a.sm (by omega) | exact (hz i j).sm (by omega) | exact (hz i i).sm (by omega))) evs.nil) (c_ref02_Sign ((rq (frS (gram b) i)).1))) ?_
        refine WP.s .n (O.le rfl rfl) ?_
        refine WP.nil ?_
        refine QE.next ?_
        refine CW.condD rfl (fun h_t100 => ?_) (fun h_t100 => ?_)
        · refine CW.seq ?_
          refine ST.freezeIn (k2 := (kPair (kSl (kSl (kPair kC kC))) kVal)) ((frMus (gram b) i), vS) 2 3 rfl rfl (fun m_ cs_ h_ c_ => fz_fst m_ cs_ h_ c_) (.keep (i := 0) rfl (.keep (i := 2) rfl (.keep (i := 3) rfl (.keep (i := 4) rfl (.keep (i := 5) rfl (.keep (i := 6) rfl (.keep (i := 10) rfl (.keep (i := 11) rfl (.keep (i := 79) rfl (.keep (i := 80) rfl (.keep (i := 81) rfl (.keep (i := 97) rfl (.keep (i := 98) rfl (.keep (i := 99) rfl (.keep (i := 100) rfl .nil))))))))))))))) ?_
          refine ST.freezeIn (k2 := (kPair (kSl (kSl (kPair kC kC))) (kSl (kPair kC kC)))) ((frMus (gram b) i), (frSts (gram b) i)) 2 2 rfl rfl (fun m_ cs_ h_ c_ => fz_snd m_ cs_ h_ c_) (.keep (i := 0) rfl (.keep (i := 2) rfl (.keep (i := 3) rfl (.keep (i := 4) rfl (.keep (i := 5) rfl (.keep (i := 6) rfl (.keep (i := 10) rfl (.keep (i := 11) rfl (.keep (i := 79) rfl (.keep (i := 80) rfl (.keep (i := 81) rfl (.keep (i := 97) rfl (.keep (i := 98) rfl (.keep (i := 99) rfl (.keep (i := 100) rfl .nil))))))))))))))) ?_
          refine CW.region ?_
          refine WP.s .n (O.ld (p := (kPair (kSl (kSl (kPair kC kC))) (kSl (kPair kC kC))).is ((frMus (gram b) i), (frSts (gram b) i))) rfl (mem_at 2 rfl) (Lens.id _) ty197 rfl) ?_
          refine WP.t .n (O.stW (l := (kPair (kSl (kSl (kPair kC kC))) (kSl (kPair kC kC)))) (u := ((frMus (gram b) i), (frSts (gram b) i))) 3 rfl rfl rfl ty197 rfl (VP.le_refl _)) ?_
          refine WP.s .n (O.asg rfl) ?_
          refine WP.nil ?_
          refine QE.next ?_
          refine CW.ret ?_
          refine QE.thenR ?_
          refine QE.blkR ?_
          refine QE.thenR ?_
          refine QE.thenR ?_
          refine QE.blkR ?_
          refine QE.thenR ?_
          have hneg := (frS_sgn hs hP).1 h_t100
          refine ST.obtold 3 rfl (OB.box_eq (y := (frV (gram b) b.length)) (fr_no (by omega) hP hneg).1) ?_
          refine ST.told 3 rfl (is_eq (y := (gOk (gram b) b.length)) (fr_no (by omega) hP hneg).2) ?_
          exact QE.done (.inl rfl) rfl (ResOk.c rfl (mem_at 3 rfl) ty197 (ResOk.t rfl ResOk.nil)) (OImp.sub (List.nil_sublist _)) ⟨rfl, rfl⟩
        · refine CW.skip ?_
          refine QE.next ?_
          refine CW.seq ?_
          refine ST.freeze 1 rfl (.keep (i := 0) rfl (.keep (i := 2) rfl (.keep (i := 3) rfl (.keep (i := 4) rfl (.keep (i := 5) rfl (.hit (i := 6) rfl (.keep (i := 10) rfl (.keep (i := 11) rfl (.keep (i := 79) rfl (.keep (i := 80) rfl (.keep (i := 81) rfl (.keep (i := 97) rfl (.keep (i := 98) rfl (.keep (i := 99) rfl (.keep (i := 100) rfl .nil))))))))))))))) ?_
          have hpos : 0 < uE (gram b) i i i := Classical.byContradiction fun e => h_t100 ((frS_sgn hs hP).2 e)
          refine CW.region ?_
          refine WP.s .n (O.fa rfl fld197_0 rfl) ?_
          refine WP.s .n (OpOk.le (O.ld (p := kVal.is vM) rfl (mem_at 3 rfl) (Lens.fst (Lens.id _)) ty194 rfl) (val_ex _)) ?_
          refine WP.s .n (O.mv rfl) ?_
          refine WP.s .n (O.bs Try.underlying194 el195_sl_pr_C_C_ (evl.c rfl evl.n) rfl (by decide)) ?_
          refine WP.ap 1 .n rfl rfl rfl (VP.le_refl _) Try.underlying194 el195_sl_pr_C_C_ (by simp only [frRow_len, frMus_len, frSts_len, List.length_cons, List.length_nil]; omega) fun v4 => ?_
          refine WP.s .n (O.fa rfl fld197_0 rfl) ?_
          refine ST.rowcell 1 rfl fun hcell_ => ?_
          refine WP.t .n (O.st 3 rfl rfl (Lens.fst (Lens.id _)) ty194 rfl (ex_val (by first | rfl | assumption))) ?_
          refine WP.nil ?_
          refine QE.next ?_
          refine CW.region ?_
          refine WP.s .n (O.fa rfl fld197_1 rfl) ?_
          refine WP.s .n (OpOk.le (O.ld (p := kVal.is vS) rfl (mem_at 3 rfl) (Lens.snd (Lens.id _)) ty195 rfl) (val_ex _)) ?_
          refine WP.s .n (O.ld rfl (mem_at 0 rfl) (Lens.id _) ty60 rfl) ?_
          refine WP.s .n (O.bs Try.underlying195 el60_pr_C_C_ (evl.c rfl evl.n) rfl (by decide)) ?_
          refine WP.ap 2 .n rfl rfl rfl (VP.le_refl _) Try.underlying195 el60_pr_C_C_ (by simp only [frRow_len, frMus_len, frSts_len, List.length_cons, List.length_nil]; omega) fun v5 => ?_
          refine WP.s .n (O.fa rfl fld197_1 rfl) ?_
          refine ST.rowcell 2 rfl fun hcell_ => ?_
          refine WP.t .n (O.st 3 rfl rfl (Lens.snd (Lens.id _)) ty195 rfl (ex_val (by first | rfl | assumption))) ?_
          refine WP.nil ?_
          refine QE.blkN ?_
          refine QE.next ?_
          refine CW.region ?_
          refine WP.s .n (O.mv rfl) ?_
          refine WP.s .n (O.add rfl rfl (c := ((i : Int) + 1)) (w64 (by omega))) ?_
          refine WP.s .n (O.asg rfl) ?_
          refine WP.nil ?_
          refine ST.obtold 1 rfl (OB.row_eq (ys := (frMus (gram b) (i + 1))) (frMus_app (gram b) i)) ?_
          refine ST.obtold 2 rfl (OB.row_eq (ys := (frSts (gram b) (i + 1))) (frSts_app (gram b) i)) ?_
          exact QE.round3 (i + 1) v4 v5 (by omega) ⟨by omega, posU_next hP hpos⟩ (Imp.cons rfl (Imp.cons rfl (Imp.cons rfl (Imp.cons rfl (Imp.consLe rfl (is_eq (y := (((i + 1) : Nat) : Int)) (by first | rfl | omega | assumption)) Imp.nil))))) (OImp.os (OS.skip (OS.keep (OS.keep (OS.keep (OS.keep OS.nil))))))
  · refine CW.exit ?_
    refine QE.thenE ?_
    refine QE.thenE ?_
    refine QE.blkH ?_
    refine QE.next ?_
    refine CW.seq ?_
    refine ST.freezeIn (k2 := (kPair (kSl (kSl (kPair kC kC))) kVal)) ((frMus (gram b) i), vS) 0 1 rfl rfl (fun m_ cs_ h_ c_ => fz_fst m_ cs_ h_ c_) (.keep (i := 0) rfl (.keep (i := 2) rfl (.keep (i := 3) rfl (.keep (i := 4) rfl (.keep (i := 5) rfl (.keep (i := 12) rfl (.keep (i := 13) rfl (.keep (i := 14) rfl (.keep (i := 15) rfl .nil))))))))) ?_
    refine ST.freezeIn (k2 := (kPair (kSl (kSl (kPair kC kC))) (kSl (kPair kC kC)))) ((frMus (gram b) i), (frSts (gram b) i)) 0 0 rfl rfl (fun m_ cs_ h_ c_ => fz_snd m_ cs_ h_ c_) (.keep (i := 0) rfl (.keep (i := 2) rfl (.keep (i := 3) rfl (.keep (i := 4) rfl (.keep (i := 5) rfl (.keep (i := 12) rfl (.keep (i := 13) rfl (.keep (i := 14) rfl (.keep (i := 15) rfl .nil))))))))) ?_
    have hib : i = b.length := by omega
    refine CW.region ?_
    refine WP.s .n (O.ld (p := (kPair (kSl (kSl (kPair kC kC))) (kSl (kPair kC kC))).is ((frMus (gram b) i), (frSts (gram b) i))) rfl (mem_at 0 rfl) (Lens.id _) ty197 rfl) ?_
    refine WP.t .n (O.stW (l := (kPair (kSl (kSl (kPair kC kC))) (kSl (kPair kC kC)))) (u := ((frMus (gram b) i), (frSts (gram b) i))) 1 rfl rfl rfl ty197 rfl (VP.le_refl _)) ?_
    refine WP.s .n (O.asg rfl) ?_
    refine WP.nil ?_
    refine QE.next ?_
    refine CW.ret ?_
    refine ST.obtold 1 rfl (OB.box_eq (y := (frV (gram b) b.length)) (by rw [← hib]; exact (fr_yes hP).1)) ?_
    refine ST.told 3 rfl (is_eq (y := (gOk (gram b) b.length)) (by rw [← hib]; exact (fr_yes hP).2)) ?_
    exact QE.done (.inl rfl) rfl (ResOk.c rfl (mem_at 1 rfl) ty197 (ResOk.t rfl ResOk.nil)) (OImp.sub (List.nil_sublist _)) ⟨rfl, rfl⟩

end Fw


/- Plain facts: whether an answer on a shortest vector belongs together. -/
set_option linter.unusedVariables false
set_option linter.unusedSimpArgs false
set_option exponentiation.threshold 400
namespace Fw
open Go

def frR (b : List (List Int)) (bits : Bool) : List (List (Int × Int)) × List (Int × Int) := if gsoE b bits = 0 then frV (gram b) b.length else ([], [])
theorem frR_1 {b bits} (h : gshape b bits ≠ 0) : ([], []) = frR b bits ∧ gshape b bits = gsoE b bits := by
  have e := (gsoE_1 h).1
  exact ⟨by unfold frR; rw [if_neg (by rw [e]; exact h)], e.symm⟩
theorem frR_2 {b bits} (h : ¬ gshape b bits ≠ 0) (h2 : gOk (gram b) b.length = false) : ([], []) = frR b bits ∧ 50 = gsoE b bits := by
  have e := (gsoE_2 h h2).1
  exact ⟨by unfold frR; rw [if_neg (by rw [e]; decide)], e.symm⟩
theorem frR_3 {b bits} (h : ¬ gshape b bits ≠ 0) (h2 : gOk (gram b) b.length = true) : frV (gram b) b.length = frR b bits ∧ 0 = gsoE b bits := by
  have e := (gsoE_3 h h2).1
  exact ⟨by unfold frR; rw [if_pos e], e.symm⟩
theorem gsoE_ok {b bits} (h : gsoE b bits = 0) : gshape b bits = 0 ∧ PosU (gram b) b.length := by
  unfold gsoE at h
  by_cases h1 : gshape b bits ≠ 0
  · rw [if_pos h1] at h; exact absurd h h1
  · rw [if_neg h1] at h
    by_cases h2 : gOk (gram b) b.length = true
    · exact ⟨by omega, gOk_iff.1 h2⟩
    · rw [if_neg h2] at h; exact absurd h (by decide)
structure Basis (b : List (List Int)) : Prop where
  z : SzM 256 b
  n : b.length ≤ 12
  n0 : 0 < b.length
  r : RectL b
  rb : rect b = true
  c : ∀ i, (b.getD i []).length ≤ 12
  p : PosU (gram b) b.length
theorem basis_of {b} (h : gsoE b true = 0) : Basis b := by
  obtain ⟨h1, h2⟩ := gsoE_ok h
  obtain ⟨h3, h4, h5⟩ := gshape_ok h1
  obtain ⟨h6, h7, h8⟩ := bigN_no h3
  exact ⟨mbits_Sz (h7 rfl), h6, h4, rectL h5, h5, h8, h2⟩
theorem SzM.up {n m b} (h : SzM n b) (hm : n ≤ m) : SzM m b := fun i k => (h i k).up hm
theorem SzL.up {n m u} (h : SzL n u) (hm : n ≤ m) : SzL m u := fun k => (h k).up hm
theorem SzL.nil (n) : SzL n [] := fun k => by rw [List.getD_nil]; exact Sz.zero _
theorem combA_Sz {n m x b} (hx : SzL n x) (hb : SzM m b) : SzL (n + m + b.length) (combA x b) := by
  unfold combA
  split
  · intro k
    by_cases hk : k < (b.getD 0 []).length
    · rw [combV_get hk]; exact combN_Sz hx hb k _
    · rw [List.getD_eq_getElem?_getD, List.getElem?_eq_none (by rw [combV_len]; omega)]; exact Sz.zero _
  · exact SzL.nil _
theorem combA_len (x b) : (combA x b).length ≤ (b.getD 0 []).length := by
  unfold combA
  split
  · rw [combV_len]; exact Nat.le_refl _
  · simp
theorem SzL.sm {m u} (h : SzL m u) (hm : m ≤ 549755813888) : ∀ x ∈ u, Sm x := fun x hx => by
  obtain ⟨i, hi, rfl⟩ := mem_getD 0 hx
  exact (h i).sm hm
def belP (b : List (List Int)) (N : Int) (V X : List Int) : Prop := combE X b = 0 ∧ ordV (combA X b) V = 0 ∧ 0 ≤ leadV (combA X b) 0 ∧ dotV (combA X b) (combA X b) = N
instance (b N V X) : Decidable (belP b N V X) := by unfold belP; infer_instance
def shortV (b : List (List Int)) (N : Int) (V X : List Int) : Bool := decide (gsoE b true = 0 ∧ belP b N V X)
theorem sgn0 {x y : Int} : (x - y).sign = 0 ↔ x = y := by rw [Int.sign_eq_zero_iff_zero]; omega
theorem bel_1 {b N V X} (h : ¬ combE X b = 0) : ¬ belP b N V X := fun e => h e.1
theorem bel_2 {b N V X} (h : ¬ ordV (combA X b) V = 0) : ¬ belP b N V X := fun e => h e.2.1
theorem bel_3 {b N V X} (h : ¬ 0 ≤ leadV (combA X b) 0) : ¬ belP b N V X := fun e => h e.2.2.1
theorem bel_4 {b N V X} (h1 : combE X b = 0) (h2 : ordV (combA X b) V = 0) (h3 : 0 ≤ leadV (combA X b) 0) : (dotV (combA X b) (combA X b) - N).sign = 0 ↔ belP b N V X := by
  rw [sgn0]; exact ⟨fun h => ⟨h1, h2, h3, h⟩, fun h => h.2.2.2⟩
theorem bel_5 {b N V X} (h1 : combE X b = 0) (h2 : ordV (combA X b) V = 0) (h3 : 0 ≤ leadV (combA X b) 0) : (N - dotV (combA X b) (combA X b)).sign = 0 ↔ belP b N V X := by
  rw [sgn0]; exact ⟨fun h => ⟨h1, h2, h3, h.symm⟩, fun h => h.2.2.2.symm⟩
theorem shortV_ok {b N V X} (h : gsoE b true = 0) : shortV b N V X = decide (belP b N V X) := by unfold shortV; simp [h]
theorem shortV_no {b N V X} (h : gsoE b true ≠ 0) : shortV b N V X = false := by unfold shortV; simp [h]
def optP (w g : Int) : Prop := 1 ≤ w ∧ w ≤ 64 ∧ 1 ≤ g ∧ g ≤ 1048576
instance (w g) : Decidable (optP w g) := by unfold optP; infer_instance
def chk16 (b : List (List Int)) (w g : Int) : Int := if gsoE b true = 0 ∧ ¬ optP w g then 150 else gsoE b true
theorem chk16_1 (b) : chk16 b 1 1 = gsoE b true := by
  unfold chk16; rw [if_neg]; intro h; exact h.2 ⟨by decide, by decide, by decide, by decide⟩
theorem bel_C {n b X} (hZ : Basis b) (hX : SzL n X) (m : Nat) (hm : n + 268 ≤ m) : SzL m (combA X b) := (combA_Sz hX hZ.z).up (by have := hZ.n; omega)
theorem bel_d {b : List (List Int)} {X : List Int} (hZ : Basis b) {n : Nat} (hC : SzL n (combA X b)) (m : Nat) (hm : n + n + 12 ≤ m) : Sz m (dotV (combA X b) (combA X b)) :=
  (dotN_Sz hC hC _).up (by have h1 := combA_len X b; have h2 := hZ.c 0; omega)

end Fw


/- Own memory: what the helpers of the statements on layer 16 answer. -/
set_option linter.unusedVariables false
set_option linter.unusedSimpArgs false
set_option exponentiation.threshold 70
namespace Fw
open Go Go.Proofs

set_option maxRecDepth 20000 in
set_option maxHeartbeats 1000000 in
theorem c_law16_own (z : Int) : Fn Try.prog 177 [kZ.is z] (kZ.is z) := by
  refine Con.enter Try.func177 rfl rfl fun m w => ?_
  refine ST.z 0 rfl fun y y_v y_n y_l => ?_
  refine CW.seq ?_
  refine CW.region ?_
  refine WP.bx .n rfl fun b1 => ?_
  refine WP.al .n z31_C fun b2 => ?_
  refine WP.nil ?_
  refine QE.next ?_
  refine CW.seq ?_
  refine CW.region ?_
  refine WP.s .n (O.asg rfl) ?_
  refine WP.nil ?_
  refine QE.next ?_
  refine CW.seq ?_
  refine ST.nilrow 121 kLimb ?_
  refine CW.region ?_
  refine WP.s .n (O.mv rfl) ?_
  refine WP.s .n (O.fa rfl fld31_1 rfl) ?_
  refine WP.s .n (O.ld rfl (mem_at 2 rfl) (Lens.snd (Lens.id _)) ty29 rfl) ?_
  refine WP.ap 0 .n rfl rfl rfl (VP.le_refl _) Try.underlying29 el121_limb (by simp; omega) fun v3 => ?_
  refine WP.s .n (O.asg rfl) ?_
  refine WP.nil ?_
  refine QE.next ?_
  refine CW.seq ?_
  refine CW.region ?_
  refine WP.s .n (O.mv rfl) ?_
  refine WP.s .n (O.bs Try.underlying29 el121_limb (evl.l rfl (u32_limb (x := 77) (by omega)) (evl.l rfl (u32_limb (x := 78) (by omega)) (evl.l rfl (u32_limb (x := 79) (by omega)) (evl.l rfl (u32_limb (x := 80) (by omega)) (evl.l rfl (u32_limb (x := 81) (by omega)) (evl.l rfl (u32_limb (x := 82) (by omega)) (evl.l rfl (u32_limb (x := 83) (by omega)) (evl.l rfl (u32_limb (x := 84) (by omega)) (evl.l rfl (u32_limb (x := 85) (by omega)) evl.n))))))))) rfl (by decide)) ?_
  refine WP.ap 0 .n rfl rfl rfl (VP.le_refl _) Try.underlying29 el121_limb (by simp; omega) fun v4 => ?_
  refine WP.s .n (O.asg rfl) ?_
  refine WP.nil ?_
  refine QE.next ?_
  refine CW.seq ?_
  refine ST.freeze 0 rfl (.keep (i := 0) rfl (.keep (i := 1) rfl (.keep (i := 2) rfl (.hit (i := 3) rfl (.keep (i := 4) rfl (.keep (i := 5) rfl (.keep (i := 6) rfl (.keep (i := 7) rfl (.keep (i := 8) rfl (.keep (i := 9) rfl (.hit (i := 10) rfl .nil))))))))))) ?_
  refine CW.draw (Γ := [.fr (VP.ex (.pointer (some ⟨b1, 0, none⟩))), .fr (kBool.is y.1), .fr (kN.is (y.2 ++ [77, 78, 79, 80, 81, 82, 83, 84, 85])), .fr (VP.ex (.pointer (some ⟨b1, 1, none⟩))), .fr (kN.is y.2), .fr ((kInt .i64).is (y.2.length : Int)), .fr (kN.is ((y.2 ++ [77, 78, 79, 80, 81, 82, 83, 84, 85]).take y.2.length)), .fr (kI.is (y.1, ((y.2 ++ [77, 78, 79, 80, 81, 82, 83, 84, 85]).take y.2.length)))]) (lates := [false, false, false, false, false, false, false, false]) (by kernel_rfl) (Chk.of rfl (by kernel_rfl) rfl) (fun _ _ _ _ _ h => h) (fun q_ x_ h_ => ?_) (fun σ => ?_)
  · match q_, h_ with
    | 0, h_ => cases h_; exact Ob.f rfl .n fun N => (O.fa rfl fld31_0 rfl)
    | 1, h_ => cases h_; exact Ob.f rfl .n fun N => (O.ld rfl (mem_app N (mem_at 1 rfl)) (Lens.fst (Lens.id _)) ty4 rfl)
    | 2, h_ => cases h_; exact Ob.f rfl .n fun N => (O.mv rfl)
    | 3, h_ => cases h_; exact Ob.f rfl .n fun N => (O.fa rfl fld31_1 rfl)
    | 4, h_ => cases h_; exact Ob.f rfl .n fun N => (O.ld rfl (mem_app N (mem_at 1 rfl)) (Lens.snd (Lens.id _)) ty29 rfl)
    | 5, h_ => cases h_; exact Ob.f rfl .n fun N => (O.lenS rfl Try.underlying29)
    | 6, h_ => cases h_; exact Ob.f rfl .n fun N => (O.slH y.2.length rfl rfl Try.underlying29 ty121 rfl (by simp))
    | 7, h_ => cases h_; exact Ob.f rfl .n fun N => (O.bld lit31_I rfl (evp.c rfl (evp.c rfl evp.n)) (.cons rfl (Lens.fst (Lens.id _)) (.cons rfl (Lens.snd (Lens.id _)) (.nil _))))
    | n_ + 8, h_ => simp at h_
  refine WP.t .n (O.stW (l := kI) (u := (y.1, ((y.2 ++ [77, 78, 79, 80, 81, 82, 83, 84, 85]).take y.2.length))) 0 rfl rfl rfl ty31 rfl (VP.le_refl _)) ?_
  refine WP.nil ?_
  refine QE.next ?_
  refine CW.ret ?_
  refine ST.obtold (b' := OB.box b2 31 kZ z) 0 rfl (OB.I_Z (own_val y_v) (by simp; omega)) ?_
  exact QE.done (.inl rfl) rfl (ResOk.c rfl (mem_at 0 rfl) ty31 ResOk.nil) (OImp.sub (List.nil_sublist _)) ⟨rfl, rfl⟩

set_option maxRecDepth 20000 in
set_option maxHeartbeats 1000000 in
theorem c_law16_owns (xs : List Int) : Fn Try.prog 119 [(kSl kZ).is xs] ((kSl kZ).is xs) := by
  refine Con.enter Try.func119 rfl rfl fun m w => ?_
  refine ST.fact (i := 0) rfl sl_len fun hB => ?_
  refine CW.seq ?_
  refine CW.region ?_
  refine WP.s .n (O.asg rfl) ?_
  refine WP.nil ?_
  refine QE.next ?_
  refine CW.seq ?_
  refine CW.region ?_
  refine WP.s .n (O.asg rfl) ?_
  refine WP.nil ?_
  refine QE.next ?_
  refine CW.seq ?_
  refine CW.seq ?_
  refine CW.region ?_
  refine WP.s .n (O.asg rfl) ?_
  refine WP.nil ?_
  refine QE.next ?_
  refine CW.block ?_
  refine ST.nilrow 31 kZ ?_
  refine CW.loop2 (fun (i : Nat) (v : Value) => i ≤ xs.length) (fun (i : Nat) (v : Value) => [(0, (kSl kZ).is xs), (3, VP.ex v), (4, (kInt .i64).is (i : Int))]) (fun (i : Nat) (v : Value) => [OB.row v 31 kZ (xs.take i)]) (fun (i : Nat) (v : Value) => xs.length - i) 0 (.slice none 0 0) (by omega) (Imp.cons rfl (Imp.cons rfl (Imp.consLe rfl (is_eq (y := (0 : Int)) (by first | omega | simp)) Imp.nil))) (OImp.os (OS.keepLe (OB.row_eq (by first | omega | simp)) OS.nil)) ?_
  intro i v hR
  have htl : (xs.take i).length = i := by simp; omega
  refine CW.seq ?_
  refine CW.seq ?_
  refine CW.region ?_
  refine WP.s .n (O.mv rfl) ?_
  refine WP.s .n (O.mv rfl) ?_
  refine WP.s .n (O.lenS rfl Try.underlying27) ?_
  refine WP.s .n (O.lt rfl rfl) ?_
  refine WP.nil ?_
  refine QE.next ?_
  refine CW.condD rfl (fun h_t8 => ?_) (fun h_t8 => ?_)
  · refine CW.skip ?_
    refine QE.next ?_
    refine CW.seq ?_
    refine CW.block ?_
    refine CW.region ?_
    refine WP.s .n (O.mv rfl) ?_
    refine WP.s .n (O.mv rfl) ?_
    refine WP.s .n (O.mv rfl) ?_
    refine WP.s .n (O.ix i rfl rfl Try.underlying27 ty31 rfl (v := (xs.getD i 0)) (gd 0 (by omega))) ?_
    refine WP.s .n (O.ldP rfl ty31) ?_
    refine WP.s .n (O.fn fn177 (evs.c rfl evs.nil) (c_law16_own (xs.getD i 0))) ?_
    refine WP.s .n (O.bs Try.underlying27 el31_Z (evl.c rfl evl.n) rfl (by decide)) ?_
    refine WP.ap 0 .n rfl rfl rfl (VP.le_refl _) Try.underlying27 el31_Z (by simp; omega) fun v1 => ?_
    refine WP.s .n (O.asg rfl) ?_
    refine WP.nil ?_
    refine QE.blkN ?_
    refine QE.next ?_
    refine CW.region ?_
    refine WP.s .n (O.mv rfl) ?_
    refine WP.s .n (O.add rfl rfl (c := ((i : Int) + 1)) (w64 (by omega))) ?_
    refine WP.s .n (O.asg rfl) ?_
    refine WP.nil ?_
    refine ST.obtold 0 rfl (OB.row_eq (ys := (xs.take (i + 1))) (take_app (by omega))) ?_
    exact QE.round2 (i + 1) v1 (by omega) (by omega) (Imp.cons rfl (Imp.cons rfl (Imp.consLe rfl (is_eq (y := (((i + 1) : Nat) : Int)) (by first | omega | simp)) Imp.nil))) (OImp.refl _)
  · refine CW.exit ?_
    refine QE.thenE ?_
    refine QE.thenE ?_
    refine QE.blkH ?_
    refine QE.next ?_
    refine CW.seq ?_
    refine CW.region ?_
    refine WP.s .n (O.mv rfl) ?_
    refine WP.s .n (O.asg rfl) ?_
    refine WP.nil ?_
    refine QE.next ?_
    refine CW.ret ?_
    refine ST.freeze 0 rfl (.keep (i := 0) rfl (.hit (i := 2) rfl (.hit (i := 3) rfl (.keep (i := 4) rfl (.keep (i := 5) rfl (.keep (i := 6) rfl (.keep (i := 7) rfl (.keep (i := 8) rfl (.hit (i := 19) rfl .nil))))))))) ?_
    refine ST.told 2 rfl (is_eq (y := xs) (List.take_of_length_le (by omega))) ?_
    exact QE.done (.inl rfl) rfl (ResOk.t rfl ResOk.nil) (OImp.sub (List.nil_sublist _)) ⟨rfl, rfl⟩

set_option maxRecDepth 20000 in
set_option maxHeartbeats 1000000 in
theorem c_law16_ownm (b : List (List Int)) : Fn Try.prog 61 [(kSl (kSl kZ)).is b] ((kSl (kSl kZ)).is b) := by
  refine Con.enter Try.func61 rfl rfl fun m w => ?_
  refine ST.fact (i := 0) rfl sl_len fun hB => ?_
  refine CW.seq ?_
  refine CW.region ?_
  refine WP.s .n (O.asg rfl) ?_
  refine WP.nil ?_
  refine QE.next ?_
  refine CW.seq ?_
  refine CW.region ?_
  refine WP.s .n (O.asg rfl) ?_
  refine WP.nil ?_
  refine QE.next ?_
  refine CW.seq ?_
  refine CW.seq ?_
  refine CW.region ?_
  refine WP.s .n (O.asg rfl) ?_
  refine WP.nil ?_
  refine QE.next ?_
  refine CW.block ?_
  refine ST.nilrow 27 (kSl kZ) ?_
  refine CW.loop2 (fun (i : Nat) (v : Value) => i ≤ b.length) (fun (i : Nat) (v : Value) => [(0, (kSl (kSl kZ)).is b), (3, VP.ex v), (4, (kInt .i64).is (i : Int))]) (fun (i : Nat) (v : Value) => [OB.row v 27 (kSl kZ) (b.take i)]) (fun (i : Nat) (v : Value) => b.length - i) 0 (.slice none 0 0) (by omega) (Imp.cons rfl (Imp.cons rfl (Imp.consLe rfl (is_eq (y := (0 : Int)) (by first | omega | simp)) Imp.nil))) (OImp.os (OS.keepLe (OB.row_eq (by first | omega | simp)) OS.nil)) ?_
  intro i v hR
  have htl : (b.take i).length = i := by simp; omega
  refine CW.seq ?_
  refine CW.seq ?_
  refine CW.region ?_
  refine WP.s .n (O.mv rfl) ?_
  refine WP.s .n (O.mv rfl) ?_
  refine WP.s .n (O.lenS rfl Try.underlying67) ?_
  refine WP.s .n (O.lt rfl rfl) ?_
  refine WP.nil ?_
  refine QE.next ?_
  refine CW.condD rfl (fun h_t8 => ?_) (fun h_t8 => ?_)
  · refine CW.skip ?_
    refine QE.next ?_
    refine CW.seq ?_
    refine CW.block ?_
    refine CW.region ?_
    refine WP.s .n (O.mv rfl) ?_
    refine WP.s .n (O.mv rfl) ?_
    refine WP.s .n (O.mv rfl) ?_
    refine WP.s .n (O.ix i rfl rfl Try.underlying67 ty27 rfl (v := (b.getD i [])) (gd [] (by omega))) ?_
    refine WP.s .n (O.ldP rfl ty27) ?_
    refine WP.s .n (O.fn fn119 (evs.c rfl evs.nil) (c_law16_owns (b.getD i []))) ?_
    refine WP.s .n (O.bs Try.underlying67 el27_sl_Z (evl.c rfl evl.n) rfl (by decide)) ?_
    refine WP.ap 0 .n rfl rfl rfl (VP.le_refl _) Try.underlying67 el27_sl_Z (by simp; omega) fun v1 => ?_
    refine WP.s .n (O.asg rfl) ?_
    refine WP.nil ?_
    refine QE.blkN ?_
    refine QE.next ?_
    refine CW.region ?_
    refine WP.s .n (O.mv rfl) ?_
    refine WP.s .n (O.add rfl rfl (c := ((i : Int) + 1)) (w64 (by omega))) ?_
    refine WP.s .n (O.asg rfl) ?_
    refine WP.nil ?_
    refine ST.obtold 0 rfl (OB.row_eq (ys := (b.take (i + 1))) (take_app (by omega))) ?_
    exact QE.round2 (i + 1) v1 (by omega) (by omega) (Imp.cons rfl (Imp.cons rfl (Imp.consLe rfl (is_eq (y := (((i + 1) : Nat) : Int)) (by first | omega | simp)) Imp.nil))) (OImp.refl _)
  · refine CW.exit ?_
    refine QE.thenE ?_
    refine QE.thenE ?_
    refine QE.blkH ?_
    refine QE.next ?_
    refine CW.seq ?_
    refine CW.region ?_
    refine WP.s .n (O.mv rfl) ?_
    refine WP.s .n (O.asg rfl) ?_
    refine WP.nil ?_
    refine QE.next ?_
    refine CW.ret ?_
    refine ST.freeze 0 rfl (.keep (i := 0) rfl (.hit (i := 2) rfl (.hit (i := 3) rfl (.keep (i := 4) rfl (.keep (i := 5) rfl (.keep (i := 6) rfl (.keep (i := 7) rfl (.keep (i := 8) rfl (.hit (i := 19) rfl .nil))))))))) ?_
    refine ST.told 2 rfl (is_eq (y := b) (List.take_of_length_le (by omega))) ?_
    exact QE.done (.inl rfl) rfl (ResOk.t rfl ResOk.nil) (OImp.sub (List.nil_sublist _)) ⟨rfl, rfl⟩

end Fw


/- ShortChecks: what the functions answer. -/
set_option linter.unusedVariables false
set_option linter.unusedSimpArgs false
set_option exponentiation.threshold 400
namespace Fw
open Go Go.Proofs

set_option maxRecDepth 20000 in
set_option maxHeartbeats 1000000 in
theorem c_ref05_check (n : Nat) (b : List (List Int)) (bits : Bool) (hb : gshape b bits = 0 → SzM n b) (hn : n ≤ 1048576) : Fn Try.prog 178 [(kSl (kSl kZ)).is b, kBool.is bits] (VP.tup [(kPair (kSl (kSl (kPair kC kC))) (kSl (kPair kC kC))).is (frR b bits), (kInt .i64).is (gsoE b bits)]) := by
  refine Con.enter Try.func178 rfl rfl fun m w => ?_
  refine CW.seq ?_
  refine CW.region ?_
  refine WP.al .n z197_pr_sl_sl_pr_C_C__sl_pr_C_C__ fun b1 => ?_
  refine WP.s .n (O.asg rfl) ?_
  refine WP.nil ?_
  refine QE.next ?_
  refine CW.seq ?_
  refine CW.region ?_
  refine WP.s .n (O.mv rfl) ?_
  refine WP.s .n (O.mv rfl) ?_
  refine WP.s .n (O.fn fn218 (evs.c rfl (evs.c rfl evs.nil)) (c_ref05_shape b bits)) ?_
  refine WP.s .n (O.asg rfl) ?_
  refine WP.nil ?_
  refine QE.next ?_
  refine CW.seq ?_
  refine CW.seq ?_
  refine CW.region ?_
  refine WP.s .n (O.mv rfl) ?_
  refine WP.s .n (O.ne rfl rfl) ?_
  refine WP.nil ?_
  refine QE.next ?_
  refine CW.condD rfl (fun h_t13 => ?_) (fun h_t13 => ?_)
  · refine CW.seq ?_
    refine CW.region ?_
    refine WP.s .n (O.bld lit197_pr_sl_sl_pr_C_C__sl_pr_C_C__ rfl evp.n (.nil _)) ?_
    refine WP.s .n (O.mv rfl) ?_
    refine WP.t .n (O.stW (l := (kPair (kSl (kSl (kPair kC kC))) (kSl (kPair kC kC)))) (u := ([], [])) 0 rfl rfl rfl ty197 rfl (VP.le_refl _)) ?_
    refine WP.s .n (O.asg rfl) ?_
    refine WP.nil ?_
    refine QE.next ?_
    refine CW.ret ?_
    refine QE.thenR ?_
    refine ST.obtold 0 rfl (OB.box_eq (y := (frR b bits)) (frR_1 (by omega)).1) ?_
    refine ST.told 5 rfl (is_eq (y := (gsoE b bits)) (frR_1 (by omega)).2) ?_
    exact QE.done (.inl rfl) rfl (ResOk.c rfl (mem_at 0 rfl) ty197 (ResOk.t rfl ResOk.nil)) (OImp.sub (List.nil_sublist _)) ⟨rfl, rfl⟩
  · refine CW.skip ?_
    refine QE.next ?_
    refine CW.seq ?_
    have hok := gshape_ok (show gshape b bits = 0 by omega)
    have hno := bigN_no hok.1
    have hr := rectL hok.2.2
    refine CW.region ?_
    refine WP.s .n (O.mv rfl) ?_
    refine WP.s .n (O.fn fn219 (evs.c rfl evs.nil) (c_ref05_Make n b (by first | assumption | omega | exact hb (by omega) | exact hno.1 | exact hno.2.2 0) (by first | assumption | omega | exact hb (by omega) | exact hno.1 | exact hno.2.2 0) (by first | assumption | omega | exact hb (by omega) | exact hno.1 | exact hno.2.2 0) (by first | assumption | omega | exact hb (by omega) | exact hno.1 | exact hno.2.2 0) (by first | assumption | omega | exact hb (by omega) | exact hno.1 | exact hno.2.2 0))) ?_
    refine WP.s .n (O.mv rfl) ?_
    refine WP.s .n (O.ext rfl rfl) ?_
    refine WP.s .n (O.ext rfl rfl) ?_
    refine WP.al .n z197_pr_sl_sl_pr_C_C__sl_pr_C_C__ fun b2 => ?_
    refine WP.t .n (O.stW (l := (kPair (kSl (kSl (kPair kC kC))) (kSl (kPair kC kC)))) (u := frV (gram b) b.length) 0 rfl rfl rfl ty197 rfl (VP.le_refl _)) ?_
    refine WP.s .n (O.asg rfl) ?_
    refine WP.nil ?_
    refine QE.next ?_
    refine CW.seq ?_
    refine CW.seq ?_
    refine CW.region ?_
    refine WP.s .n (O.mv rfl) ?_
    refine WP.s .n (O.not rfl) ?_
    refine WP.nil ?_
    refine QE.next ?_
    refine CW.cond rfl (fun h_t22 => ?_) (fun h_t22 => ?_)
    · refine CW.seq ?_
      refine CW.region ?_
      refine WP.s .n (O.bld lit197_pr_sl_sl_pr_C_C__sl_pr_C_C__ rfl evp.n (.nil _)) ?_
      refine WP.t .n (O.stW (l := (kPair (kSl (kSl (kPair kC kC))) (kSl (kPair kC kC)))) (u := ([], [])) 1 rfl rfl rfl ty197 rfl (VP.le_refl _)) ?_
      refine WP.s .n (O.asg rfl) ?_
      refine WP.nil ?_
      refine QE.next ?_
      refine CW.ret ?_
      refine QE.thenR ?_
      have hk : gOk (gram b) b.length = false := by simpa using h_t22
      refine ST.obtold 1 rfl (OB.box_eq (y := (frR b bits)) (frR_2 (by omega) hk).1) ?_
      refine ST.told 5 rfl (is_eq (y := (gsoE b bits)) (frR_2 (by omega) hk).2) ?_
      exact QE.done (.inl rfl) rfl (ResOk.c rfl (mem_at 1 rfl) ty197 (ResOk.t rfl ResOk.nil)) (OImp.sub (List.nil_sublist _)) ⟨rfl, rfl⟩
    · refine CW.skip ?_
      refine QE.next ?_
      refine CW.seq ?_
      refine CW.region ?_
      refine WP.s .n (O.ld rfl (mem_at 0 rfl) (Lens.id _) ty197 rfl) ?_
      refine WP.t .n (O.stW (l := (kPair (kSl (kSl (kPair kC kC))) (kSl (kPair kC kC)))) (u := frV (gram b) b.length) 1 rfl rfl rfl ty197 rfl (VP.le_refl _)) ?_
      refine WP.s .n (O.asg rfl) ?_
      refine WP.nil ?_
      refine QE.next ?_
      refine CW.ret ?_
      have hk : gOk (gram b) b.length = true := by simpa using h_t22
      refine ST.obtold 1 rfl (OB.box_eq (y := (frR b bits)) (frR_3 (by omega) hk).1) ?_
      refine ST.told 5 rfl (is_eq (y := (gsoE b bits)) (frR_3 (by omega) hk).2) ?_
      exact QE.done (.inl rfl) rfl (ResOk.c rfl (mem_at 1 rfl) ty197 (ResOk.t rfl ResOk.nil)) (OImp.sub (List.nil_sublist _)) ⟨rfl, rfl⟩

set_option maxRecDepth 20000 in
set_option maxHeartbeats 1000000 in
theorem c_ref05_Valid (b : List (List Int)) : Fn Try.prog 120 [(kSl (kSl kZ)).is b] ((kInt .i64).is (gsoE b true)) := by
  refine Con.enter Try.func120 rfl rfl fun m w => ?_
  refine CW.seq ?_
  refine CW.region ?_
  refine WP.s .n (O.asg rfl) ?_
  refine WP.nil ?_
  refine QE.next ?_
  refine CW.seq ?_
  refine CW.region ?_
  refine WP.s .n (O.mv rfl) ?_
  refine WP.s .n (O.fn fn178 (evs.c rfl (evs.c rfl evs.nil)) (c_ref05_check 256 b true (fun h => mbits_Sz ((bigN_no (gshape_ok h).1).2.1 rfl)) (by decide))) ?_
  refine WP.s .n (O.mv rfl) ?_
  refine WP.s .n (O.ext rfl rfl) ?_
  refine WP.s .n (O.ext rfl rfl) ?_
  refine WP.al .n z197_pr_sl_sl_pr_C_C__sl_pr_C_C__ fun b1 => ?_
  refine WP.t .n (O.stW (l := (kPair (kSl (kSl (kPair kC kC))) (kSl (kPair kC kC)))) (u := frR b true) 0 rfl rfl rfl ty197 rfl (VP.le_refl _)) ?_
  refine WP.s .n (O.asg rfl) ?_
  refine WP.nil ?_
  refine QE.next ?_
  refine CW.seq ?_
  refine CW.region ?_
  refine WP.s .n (O.mv rfl) ?_
  refine WP.s .n (O.asg rfl) ?_
  refine WP.nil ?_
  refine QE.next ?_
  refine CW.ret ?_
  exact QE.done (.inl rfl) rfl (ResOk.t rfl ResOk.nil) (OImp.sub (List.nil_sublist _)) ⟨rfl, rfl⟩

set_option maxRecDepth 20000 in
set_option maxHeartbeats 1000000 in
theorem c_ref15_Valid (wk bg : Int) (f : Bool) : Fn Try.prog 121 [(kPair (kInt .i64) (kPair (kInt .i64) kBool)).is (wk, bg, f)] (kBool.is (decide (optP wk bg))) := by
  refine Con.enter Try.func121 rfl rfl fun m w => ?_
  refine CW.seq ?_
  refine CW.region ?_
  refine WP.bx .n rfl fun b1 => ?_
  refine WP.s .n (O.asg rfl) ?_
  refine WP.nil ?_
  refine QE.next ?_
  refine CW.seq ?_
  refine CW.region ?_
  refine WP.s .n (O.fa rfl fld25_0 rfl) ?_
  refine WP.s .n (O.ld (p := (kInt .i64).is wk) rfl (mem_at 0 rfl) (Lens.fst (Lens.id _)) ty3 rfl) ?_
  refine WP.s .n (O.ge rfl rfl) ?_
  refine WP.s .n (O.mv rfl) ?_
  refine WP.splitD 6 rfl (fun h_t6 => ?_) (fun h_t6 => ?_)
  · refine WP.s (.g rfl rfl) (O.fa rfl fld25_0 rfl) ?_
    refine WP.s (.g rfl rfl) (O.ld (p := (kInt .i64).is wk) rfl (mem_at 0 rfl) (Lens.fst (Lens.id _)) ty3 rfl) ?_
    refine WP.s (.g rfl rfl) (O.le rfl rfl) ?_
    refine WP.s .n (O.pickT rfl rfl) ?_
    refine WP.s .n (O.mv rfl) ?_
    refine WP.splitD 11 rfl (fun h_t11 => ?_) (fun h_t11 => ?_)
    · refine WP.s (.g rfl rfl) (O.fa rfl fld25_1 rfl) ?_
      refine WP.s (.g rfl rfl) (O.ld (p := (kInt .i64).is bg) rfl (mem_at 0 rfl) (Lens.snd (Lens.fst (Lens.id _))) ty3 rfl) ?_
      refine WP.s (.g rfl rfl) (O.ge rfl rfl) ?_
      refine WP.s .n (O.pickT rfl rfl) ?_
      refine WP.s .n (O.mv rfl) ?_
      refine WP.splitD 16 rfl (fun h_t16 => ?_) (fun h_t16 => ?_)
      · refine WP.s (.g rfl rfl) (O.fa rfl fld25_1 rfl) ?_
        refine WP.s (.g rfl rfl) (O.ld (p := (kInt .i64).is bg) rfl (mem_at 0 rfl) (Lens.snd (Lens.fst (Lens.id _))) ty3 rfl) ?_
        refine WP.s (.g rfl rfl) (O.le rfl rfl) ?_
        refine WP.s .n (O.pickT rfl rfl) ?_
        refine WP.s .n (O.asg rfl) ?_
        refine WP.nil ?_
        refine QE.next ?_
        refine CW.ret ?_
        exact QE.done (.inl rfl) rfl (ResOk.tl rfl (is_eq (y := decide (optP wk bg)) (by first | exact decide_eq_decide.2 (by unfold optP; omega) | exact (decide_eq_false (by unfold optP; omega)).symm)) ResOk.nil) (OImp.sub (List.nil_sublist _)) ⟨rfl, rfl⟩
      · refine WP.ku (b := false) rfl rfl ?_
        refine WP.ku (b := false) rfl rfl ?_
        refine WP.ku (b := false) rfl rfl ?_
        refine WP.s .n (O.pickF rfl rfl) ?_
        refine WP.s .n (O.asg rfl) ?_
        refine WP.nil ?_
        refine QE.next ?_
        refine CW.ret ?_
        exact QE.done (.inl rfl) rfl (ResOk.tl rfl (is_eq (y := decide (optP wk bg)) (by first | exact decide_eq_decide.2 (by unfold optP; omega) | exact (decide_eq_false (by unfold optP; omega)).symm)) ResOk.nil) (OImp.sub (List.nil_sublist _)) ⟨rfl, rfl⟩
    · refine WP.ku (b := false) rfl rfl ?_
      refine WP.ku (b := false) rfl rfl ?_
      refine WP.ku (b := false) rfl rfl ?_
      refine WP.s .n (O.pickF rfl rfl) ?_
      refine WP.s .n (O.mv rfl) ?_
      refine WP.ku (b := false) rfl rfl ?_
      refine WP.ku (b := false) rfl rfl ?_
      refine WP.ku (b := false) rfl rfl ?_
      refine WP.s .n (O.pickF rfl rfl) ?_
      refine WP.s .n (O.asg rfl) ?_
      refine WP.nil ?_
      refine QE.next ?_
      refine CW.ret ?_
      exact QE.done (.inl rfl) rfl (ResOk.tl rfl (is_eq (y := decide (optP wk bg)) (by first | exact decide_eq_decide.2 (by unfold optP; omega) | exact (decide_eq_false (by unfold optP; omega)).symm)) ResOk.nil) (OImp.sub (List.nil_sublist _)) ⟨rfl, rfl⟩
  · refine WP.ku (b := false) rfl rfl ?_
    refine WP.ku (b := false) rfl rfl ?_
    refine WP.ku (b := false) rfl rfl ?_
    refine WP.s .n (O.pickF rfl rfl) ?_
    refine WP.s .n (O.mv rfl) ?_
    refine WP.ku (b := false) rfl rfl ?_
    refine WP.ku (b := false) rfl rfl ?_
    refine WP.ku (b := false) rfl rfl ?_
    refine WP.s .n (O.pickF rfl rfl) ?_
    refine WP.s .n (O.mv rfl) ?_
    refine WP.ku (b := false) rfl rfl ?_
    refine WP.ku (b := false) rfl rfl ?_
    refine WP.ku (b := false) rfl rfl ?_
    refine WP.s .n (O.pickF rfl rfl) ?_
    refine WP.s .n (O.asg rfl) ?_
    refine WP.nil ?_
    refine QE.next ?_
    refine CW.ret ?_
    exact QE.done (.inl rfl) rfl (ResOk.tl rfl (is_eq (y := decide (optP wk bg)) (by first | exact decide_eq_decide.2 (by unfold optP; omega) | exact (decide_eq_false (by unfold optP; omega)).symm)) ResOk.nil) (OImp.sub (List.nil_sublist _)) ⟨rfl, rfl⟩

set_option maxRecDepth 20000 in
set_option maxHeartbeats 1000000 in
theorem c_ref16_Check (b : List (List Int)) (wk bg : Int) (f : Bool) : Fn Try.prog 62 [(kSl (kSl kZ)).is b, (kPair (kInt .i64) (kPair (kInt .i64) kBool)).is (wk, bg, f)] ((kInt .i64).is (chk16 b wk bg)) := by
  refine Con.enter Try.func62 rfl rfl fun m w => ?_
  refine CW.seq ?_
  refine CW.region ?_
  refine WP.bx .n rfl fun b1 => ?_
  refine WP.s .n (O.asg rfl) ?_
  refine WP.nil ?_
  refine QE.next ?_
  refine CW.seq ?_
  refine CW.region ?_
  refine WP.s .n (O.mv rfl) ?_
  refine WP.s .n (O.fn fn120 (evs.c rfl evs.nil) (c_ref05_Valid b)) ?_
  refine WP.s .n (O.asg rfl) ?_
  refine WP.nil ?_
  refine QE.next ?_
  refine CW.seq ?_
  refine CW.seq ?_
  refine CW.region ?_
  refine WP.s .n (O.mv rfl) ?_
  refine WP.s .n (O.eq rfl rfl) ?_
  refine WP.s .n (O.mv rfl) ?_
  refine WP.splitD 10 rfl (fun h_t10 => ?_) (fun h_t10 => ?_)
  · refine WP.s (.g rfl rfl) (O.ld (p := (kPair (kInt .i64) (kPair (kInt .i64) kBool)).is (wk, bg, f)) rfl (mem_at 0 rfl) (Lens.id _) ty25 rfl) ?_
    refine WP.s (.g rfl rfl) (O.fn fn121 (evs.c rfl evs.nil) (c_ref15_Valid wk bg f)) ?_
    refine WP.s (.g rfl rfl) (O.not rfl) ?_
    refine WP.s .n (O.pickT rfl rfl) ?_
    refine WP.nil ?_
    refine QE.next ?_
    refine CW.cond rfl (fun h_t14 => ?_) (fun h_t14 => ?_)
    · refine CW.seq ?_
      refine CW.region ?_
      refine WP.s .n (O.asg rfl) ?_
      refine WP.nil ?_
      refine QE.next ?_
      refine CW.ret ?_
      refine QE.thenR ?_
      refine ST.told 4 rfl (is_eq (y := (chk16 b wk bg)) (by unfold chk16; split <;> simp_all)) ?_
      exact QE.done (.inl rfl) rfl (ResOk.t rfl ResOk.nil) (OImp.sub (List.nil_sublist _)) ⟨rfl, rfl⟩
    · refine CW.skip ?_
      refine QE.next ?_
      refine CW.seq ?_
      refine CW.region ?_
      refine WP.s .n (O.mv rfl) ?_
      refine WP.s .n (O.asg rfl) ?_
      refine WP.nil ?_
      refine QE.next ?_
      refine CW.ret ?_
      refine ST.told 4 rfl (is_eq (y := (chk16 b wk bg)) (by unfold chk16; split <;> simp_all)) ?_
      exact QE.done (.inl rfl) rfl (ResOk.t rfl ResOk.nil) (OImp.sub (List.nil_sublist _)) ⟨rfl, rfl⟩
  · refine WP.ku (b := false) rfl rfl ?_
    refine WP.ku (b := false) rfl rfl ?_
    refine WP.ku (b := false) rfl rfl ?_
    refine WP.s .n (O.pickF rfl rfl) ?_
    refine WP.nil ?_
    refine QE.next ?_
    refine CW.condF rfl ?_
    refine CW.skip ?_
    refine QE.next ?_
    refine CW.seq ?_
    refine CW.region ?_
    refine WP.s .n (O.mv rfl) ?_
    refine WP.s .n (O.asg rfl) ?_
    refine WP.nil ?_
    refine QE.next ?_
    refine CW.ret ?_
    refine ST.told 4 rfl (is_eq (y := (chk16 b wk bg)) (by unfold chk16; split <;> simp_all)) ?_
    exact QE.done (.inl rfl) rfl (ResOk.t rfl ResOk.nil) (OImp.sub (List.nil_sublist _)) ⟨rfl, rfl⟩

set_option maxRecDepth 20000 in
set_option maxHeartbeats 1000000 in
theorem c_short_Check (b : List (List Int)) (sN : Int) (sV sX : List Int) (sB sU : List (List Int)) (hN : Sz 33554432 sN) (hV : SzL 33554432 sV) (hX : SzL 33554432 sX) : Fn Try.prog 60 [(kSl (kSl kZ)).is b, (kPair kZ (kPair (kSl kZ) (kPair (kSl kZ) (kPair (kSl (kSl kZ)) (kSl (kSl kZ)))))).is (sN, sV, sX, sB, sU)] (VP.tup [kBool.is (shortV b sN sV sX), (kInt .i64).is (gsoE b true)]) := by
  refine Con.enter Try.func60 rfl rfl fun m w => ?_
  refine CW.seq ?_
  refine CW.region ?_
  refine WP.bx .n rfl fun b1 => ?_
  refine WP.s .n (O.asg rfl) ?_
  refine WP.s .n (O.asg rfl) ?_
  refine WP.nil ?_
  refine QE.next ?_
  refine CW.seq ?_
  refine CW.seq ?_
  refine CW.region ?_
  refine WP.s .n (O.mv rfl) ?_
  refine WP.s .n (O.fn fn116 (evs.c rfl evs.nil) (c_gso_Valid b)) ?_
  refine WP.s .n (O.asg rfl) ?_
  refine WP.nil ?_
  refine QE.next ?_
  refine CW.seq ?_
  refine CW.region ?_
  refine WP.s .n (O.mv rfl) ?_
  refine WP.s .n (O.ne rfl rfl) ?_
  refine WP.nil ?_
  refine QE.next ?_
  refine CW.condD rfl (fun h_t12 => ?_) (fun h_t12 => ?_)
  · refine CW.seq ?_
    refine CW.region ?_
    refine WP.s .n (O.mv rfl) ?_
    refine WP.s .n (O.asg rfl) ?_
    refine WP.s .n (O.asg rfl) ?_
    refine WP.nil ?_
    refine QE.next ?_
    refine CW.ret ?_
    refine QE.thenR ?_
    refine ST.told 4 rfl (is_eq (y := (shortV b sN sV sX)) (shortV_no (by omega)).symm) ?_
    exact QE.done (.inl rfl) rfl (ResOk.t rfl (ResOk.t rfl ResOk.nil)) (OImp.sub (List.nil_sublist _)) ⟨rfl, rfl⟩
  · refine CW.skip ?_
    refine QE.next ?_
    refine CW.seq ?_
    have hZ := basis_of (b := b) (by omega)
    have hC := bel_C hZ hX 67108876 (by decide)
    have hSl := hC.sm (by decide)
    have hlC := combA_len sX b
    have hl12 := hZ.c 0
    have hd := bel_d hZ hC 134217764 (by decide)
    have hSd := hd.sm (by decide)
    have hSs := (hN.sub hd).sm (by decide)
    refine CW.region ?_
    refine WP.s .n (O.fa rfl fld100_2 rfl) ?_
    refine WP.s .n (O.ld (p := (kSl kZ).is sX) rfl (mem_at 0 rfl) (Lens.snd (Lens.snd (Lens.fst (Lens.id _)))) ty27 rfl) ?_
    refine WP.s .n (O.mv rfl) ?_
    refine WP.s .n (O.fn fn69 (evs.c rfl (evs.c rfl evs.nil)) (c_mat_Combine 33554432 sX b (by first | assumption | exact hZ.z.up (by decide) | exact hZ.n | (have := hZ.n; omega)) (by first | assumption | exact hZ.z.up (by decide) | exact hZ.n | (have := hZ.n; omega)) (by first | assumption | exact hZ.z.up (by decide) | exact hZ.n | (have := hZ.n; omega)))) ?_
    refine WP.s .n (O.mv rfl) ?_
    refine WP.s .n (O.ext rfl rfl) ?_
    refine WP.s .n (O.ext rfl rfl) ?_
    refine WP.s .n (O.asg rfl) ?_
    refine WP.s .n (O.asg rfl) ?_
    refine WP.nil ?_
    refine QE.next ?_
    refine CW.seq ?_
    by_cases h5 : combE sX b = 0
    · by_cases h6 : ordV (combA sX b) sV = 0
      · by_cases h7 : 0 ≤ leadV (combA sX b) 0
        · refine CW.draw (Γ := [.fr ((kInt .i64).is (combE sX b)), .fr (kBool.is true), .fr (kBool.is true), .fr ((kSl kC).is (combA sX b)), .fr (VP.ex (.pointer (some ⟨b1, 2, none⟩))), .fr ((kSl kZ).is sV), .fr ((kInt .i64).is (ordV (combA sX b) sV)), .fr (kBool.is true), .fr (kBool.is true), .fr (kBool.is true), .fr ((kSl kC).is (combA sX b)), .fr ((kInt .i64).is (leadV (combA sX b) 0)), .fr (kBool.is true), .fr (kBool.is true), .fr (kBool.is true), .fr ((kSl kC).is (combA sX b)), .fr (kC.is (dotV (combA sX b) (combA sX b))), .fr (VP.ex (.pointer (some ⟨b1, 0, none⟩))), .fr (kZ.is sN), .fr ((kInt .i64).is (((dotV (combA sX b) (combA sX b)) - sN).sign)), .fr (kBool.is (decide ((((dotV (combA sX b) (combA sX b)) - sN).sign) = 0))), .fr (kBool.is (decide ((((dotV (combA sX b) (combA sX b)) - sN).sign) = 0)))]) (lates := [false, false, false, false, false, false, false, false, false, false, false, false, false, false, false, false, false, false, false, false, false, false]) (by kernel_rfl) (Chk.of rfl (by kernel_rfl) rfl) (fun _ _ _ _ _ h => h) (fun q_ x_ h_ => ?_) (fun σ1 => ?_)
          · match q_, h_ with
            | 0, h_ => cases h_; exact Ob.f rfl .n fun N => (O.mv rfl)
            | 1, h_ => cases h_; exact Ob.f rfl .n fun N => (OpOk.le (O.eq rfl rfl) (is_eq (decide_eq_true h5)))
            | 2, h_ => cases h_; exact Ob.f rfl .n fun N => (O.mv rfl)
            | 3, h_ => cases h_; exact Ob.f rfl (.g rfl rfl) fun N => (O.mv rfl)
            | 4, h_ => cases h_; exact Ob.f rfl (.g rfl rfl) fun N => (O.fa rfl fld100_1 rfl)
            | 5, h_ => cases h_; exact Ob.f rfl (.g rfl rfl) fun N => (O.ld (p := (kSl kZ).is sV) rfl (mem_app N (mem_at 0 rfl)) (Lens.snd (Lens.fst (Lens.id _))) ty27 rfl)
            | 6, h_ => cases h_; exact Ob.f rfl (.g rfl rfl) fun N => (O.fn fn117 (evs.l rfl (slC_Z (by first | exact hSl | exact hSd | exact hN.sm (by omega))) (evs.c rfl evs.nil)) (c_mat_Order (combA sX b) sV))
            | 7, h_ => cases h_; exact Ob.f rfl (.g rfl rfl) fun N => (OpOk.le (O.eq rfl rfl) (is_eq (decide_eq_true h6)))
            | 8, h_ => cases h_; exact Ob.f rfl .n fun N => (O.pickT rfl rfl)
            | 9, h_ => cases h_; exact Ob.f rfl .n fun N => (O.mv rfl)
            | 10, h_ => cases h_; exact Ob.f rfl (.g rfl rfl) fun N => (O.mv rfl)
            | 11, h_ => cases h_; exact Ob.f rfl (.g rfl rfl) fun N => (O.fn fn118 (evs.l rfl (slC_Z (by first | exact hSl | exact hSd | exact hN.sm (by omega))) evs.nil) (c_mat_Lead (combA sX b)))
            | 12, h_ => cases h_; exact Ob.f rfl (.g rfl rfl) fun N => (OpOk.le (O.ge rfl rfl) (is_eq (decide_eq_true h7)))
            | 13, h_ => cases h_; exact Ob.f rfl .n fun N => (O.pickT rfl rfl)
            | 14, h_ => cases h_; exact Ob.f rfl .n fun N => (O.mv rfl)
            | 15, h_ => cases h_; exact Ob.f rfl (.g rfl rfl) fun N => (O.mv rfl)
            | 16, h_ => cases h_; exact Ob.f rfl (.g rfl rfl) fun N => (O.fn fn70 (evs.l rfl (slC_Z (by first | exact hSl | exact hSd | exact hN.sm (by omega))) evs.nil) (c_mat_Norm 67108876 (combA sX b) hC (by omega)))
            | 17, h_ => cases h_; exact Ob.f rfl (.g rfl rfl) fun N => (O.fa rfl fld100_0 rfl)
            | 18, h_ => cases h_; exact Ob.f rfl (.g rfl rfl) fun N => (O.ld (p := kZ.is sN) rfl (mem_app N (mem_at 0 rfl)) (Lens.fst (Lens.id _)) ty31 rfl)
            | 19, h_ => cases h_; exact Ob.f rfl (.g rfl rfl) fun N => (O.fn fn75 (evs.l rfl (kC_Z (by first | exact hSl | exact hSd | exact hN.sm (by omega))) (evs.c rfl evs.nil)) (c_zint_Compare (dotV (combA sX b) (combA sX b)) sN))
            | 20, h_ => cases h_; exact Ob.f rfl (.g rfl rfl) fun N => (O.eq rfl rfl)
            | 21, h_ => cases h_; exact Ob.f rfl .n fun N => (O.pickT rfl rfl)
            | n_ + 22, h_ => simp at h_
          refine WP.s .n (O.asg rfl) ?_
          refine WP.s .n (O.asg rfl) ?_
          refine WP.nil ?_
          refine QE.next ?_
          refine CW.ret ?_
          refine ST.told 4 rfl (is_eq (y := (shortV b sN sV sX)) (by rw [shortV_ok (by omega)]; exact decide_eq_decide.2 (bel_4 h5 h6 h7))) ?_
          exact QE.done (.inl rfl) rfl (ResOk.t rfl (ResOk.tl rfl (is_eq (y := gsoE b true) (by first | rfl | omega | assumption)) ResOk.nil)) (OImp.sub (List.nil_sublist _)) ⟨rfl, rfl⟩
        · refine CW.draw (Γ := [.fr ((kInt .i64).is (combE sX b)), .fr (kBool.is true), .fr (kBool.is true), .fr ((kSl kC).is (combA sX b)), .fr (VP.ex (.pointer (some ⟨b1, 2, none⟩))), .fr ((kSl kZ).is sV), .fr ((kInt .i64).is (ordV (combA sX b) sV)), .fr (kBool.is true), .fr (kBool.is true), .fr (kBool.is true), .fr ((kSl kC).is (combA sX b)), .fr ((kInt .i64).is (leadV (combA sX b) 0)), .fr (kBool.is false), .fr (kBool.is false), .fr (kBool.is false), .fr (VP.ex undef), .fr (VP.ex undef), .fr (VP.ex undef), .fr (VP.ex undef), .fr (VP.ex undef), .fr (VP.ex undef), .fr (kBool.is false)]) (lates := [false, false, false, false, false, false, false, false, false, false, false, false, false, false, false, false, false, false, false, false, false, false]) (by kernel_rfl) (Chk.of rfl (by kernel_rfl) rfl) (fun _ _ _ _ _ h => h) (fun q_ x_ h_ => ?_) (fun σ2 => ?_)
          · match q_, h_ with
            | 0, h_ => cases h_; exact Ob.f rfl .n fun N => (O.mv rfl)
            | 1, h_ => cases h_; exact Ob.f rfl .n fun N => (OpOk.le (O.eq rfl rfl) (is_eq (decide_eq_true h5)))
            | 2, h_ => cases h_; exact Ob.f rfl .n fun N => (O.mv rfl)
            | 3, h_ => cases h_; exact Ob.f rfl (.g rfl rfl) fun N => (O.mv rfl)
            | 4, h_ => cases h_; exact Ob.f rfl (.g rfl rfl) fun N => (O.fa rfl fld100_1 rfl)
            | 5, h_ => cases h_; exact Ob.f rfl (.g rfl rfl) fun N => (O.ld (p := (kSl kZ).is sV) rfl (mem_app N (mem_at 0 rfl)) (Lens.snd (Lens.fst (Lens.id _))) ty27 rfl)
            | 6, h_ => cases h_; exact Ob.f rfl (.g rfl rfl) fun N => (O.fn fn117 (evs.l rfl (slC_Z (by first | exact hSl | exact hSd | exact hN.sm (by omega))) (evs.c rfl evs.nil)) (c_mat_Order (combA sX b) sV))
            | 7, h_ => cases h_; exact Ob.f rfl (.g rfl rfl) fun N => (OpOk.le (O.eq rfl rfl) (is_eq (decide_eq_true h6)))
            | 8, h_ => cases h_; exact Ob.f rfl .n fun N => (O.pickT rfl rfl)
            | 9, h_ => cases h_; exact Ob.f rfl .n fun N => (O.mv rfl)
            | 10, h_ => cases h_; exact Ob.f rfl (.g rfl rfl) fun N => (O.mv rfl)
            | 11, h_ => cases h_; exact Ob.f rfl (.g rfl rfl) fun N => (O.fn fn118 (evs.l rfl (slC_Z (by first | exact hSl | exact hSd | exact hN.sm (by omega))) evs.nil) (c_mat_Lead (combA sX b)))
            | 12, h_ => cases h_; exact Ob.f rfl (.g rfl rfl) fun N => (OpOk.le (O.ge rfl rfl) (is_eq (decide_eq_false h7)))
            | 13, h_ => cases h_; exact Ob.f rfl .n fun N => (O.pickT rfl rfl)
            | 14, h_ => cases h_; exact Ob.f rfl .n fun N => (O.mv rfl)
            | 15, h_ => cases h_; exact Ob.ku (b := false) rfl rfl rfl
            | 16, h_ => cases h_; exact Ob.ku (b := false) rfl rfl rfl
            | 17, h_ => cases h_; exact Ob.ku (b := false) rfl rfl rfl
            | 18, h_ => cases h_; exact Ob.ku (b := false) rfl rfl rfl
            | 19, h_ => cases h_; exact Ob.ku (b := false) rfl rfl rfl
            | 20, h_ => cases h_; exact Ob.ku (b := false) rfl rfl rfl
            | 21, h_ => cases h_; exact Ob.f rfl .n fun N => (O.pickF rfl rfl)
            | n_ + 22, h_ => simp at h_
          refine WP.s .n (O.asg rfl) ?_
          refine WP.s .n (O.asg rfl) ?_
          refine WP.nil ?_
          refine QE.next ?_
          refine CW.ret ?_
          refine ST.told 4 rfl (is_eq (y := (shortV b sN sV sX)) (by rw [shortV_ok (by omega), decide_eq_false (bel_3 h7)])) ?_
          exact QE.done (.inl rfl) rfl (ResOk.t rfl (ResOk.tl rfl (is_eq (y := gsoE b true) (by first | rfl | omega | assumption)) ResOk.nil)) (OImp.sub (List.nil_sublist _)) ⟨rfl, rfl⟩
      · refine CW.draw (Γ := [.fr ((kInt .i64).is (combE sX b)), .fr (kBool.is true), .fr (kBool.is true), .fr ((kSl kC).is (combA sX b)), .fr (VP.ex (.pointer (some ⟨b1, 2, none⟩))), .fr ((kSl kZ).is sV), .fr ((kInt .i64).is (ordV (combA sX b) sV)), .fr (kBool.is false), .fr (kBool.is false), .fr (kBool.is false), .fr (VP.ex undef), .fr (VP.ex undef), .fr (VP.ex undef), .fr (kBool.is false), .fr (kBool.is false), .fr (VP.ex undef), .fr (VP.ex undef), .fr (VP.ex undef), .fr (VP.ex undef), .fr (VP.ex undef), .fr (VP.ex undef), .fr (kBool.is false)]) (lates := [false, false, false, false, false, false, false, false, false, false, false, false, false, false, false, false, false, false, false, false, false, false]) (by kernel_rfl) (Chk.of rfl (by kernel_rfl) rfl) (fun _ _ _ _ _ h => h) (fun q_ x_ h_ => ?_) (fun σ3 => ?_)
        · match q_, h_ with
          | 0, h_ => cases h_; exact Ob.f rfl .n fun N => (O.mv rfl)
          | 1, h_ => cases h_; exact Ob.f rfl .n fun N => (OpOk.le (O.eq rfl rfl) (is_eq (decide_eq_true h5)))
          | 2, h_ => cases h_; exact Ob.f rfl .n fun N => (O.mv rfl)
          | 3, h_ => cases h_; exact Ob.f rfl (.g rfl rfl) fun N => (O.mv rfl)
          | 4, h_ => cases h_; exact Ob.f rfl (.g rfl rfl) fun N => (O.fa rfl fld100_1 rfl)
          | 5, h_ => cases h_; exact Ob.f rfl (.g rfl rfl) fun N => (O.ld (p := (kSl kZ).is sV) rfl (mem_app N (mem_at 0 rfl)) (Lens.snd (Lens.fst (Lens.id _))) ty27 rfl)
          | 6, h_ => cases h_; exact Ob.f rfl (.g rfl rfl) fun N => (O.fn fn117 (evs.l rfl (slC_Z (by first | exact hSl | exact hSd | exact hN.sm (by omega))) (evs.c rfl evs.nil)) (c_mat_Order (combA sX b) sV))
          | 7, h_ => cases h_; exact Ob.f rfl (.g rfl rfl) fun N => (OpOk.le (O.eq rfl rfl) (is_eq (decide_eq_false h6)))
          | 8, h_ => cases h_; exact Ob.f rfl .n fun N => (O.pickT rfl rfl)
          | 9, h_ => cases h_; exact Ob.f rfl .n fun N => (O.mv rfl)
          | 10, h_ => cases h_; exact Ob.ku (b := false) rfl rfl rfl
          | 11, h_ => cases h_; exact Ob.ku (b := false) rfl rfl rfl
          | 12, h_ => cases h_; exact Ob.ku (b := false) rfl rfl rfl
          | 13, h_ => cases h_; exact Ob.f rfl .n fun N => (O.pickF rfl rfl)
          | 14, h_ => cases h_; exact Ob.f rfl .n fun N => (O.mv rfl)
          | 15, h_ => cases h_; exact Ob.ku (b := false) rfl rfl rfl
          | 16, h_ => cases h_; exact Ob.ku (b := false) rfl rfl rfl
          | 17, h_ => cases h_; exact Ob.ku (b := false) rfl rfl rfl
          | 18, h_ => cases h_; exact Ob.ku (b := false) rfl rfl rfl
          | 19, h_ => cases h_; exact Ob.ku (b := false) rfl rfl rfl
          | 20, h_ => cases h_; exact Ob.ku (b := false) rfl rfl rfl
          | 21, h_ => cases h_; exact Ob.f rfl .n fun N => (O.pickF rfl rfl)
          | n_ + 22, h_ => simp at h_
        refine WP.s .n (O.asg rfl) ?_
        refine WP.s .n (O.asg rfl) ?_
        refine WP.nil ?_
        refine QE.next ?_
        refine CW.ret ?_
        refine ST.told 4 rfl (is_eq (y := (shortV b sN sV sX)) (by rw [shortV_ok (by omega), decide_eq_false (bel_2 h6)])) ?_
        exact QE.done (.inl rfl) rfl (ResOk.t rfl (ResOk.tl rfl (is_eq (y := gsoE b true) (by first | rfl | omega | assumption)) ResOk.nil)) (OImp.sub (List.nil_sublist _)) ⟨rfl, rfl⟩
    · refine CW.draw (Γ := [.fr ((kInt .i64).is (combE sX b)), .fr (kBool.is false), .fr (kBool.is false), .fr (VP.ex undef), .fr (VP.ex undef), .fr (VP.ex undef), .fr (VP.ex undef), .fr (VP.ex undef), .fr (kBool.is false), .fr (kBool.is false), .fr (VP.ex undef), .fr (VP.ex undef), .fr (VP.ex undef), .fr (kBool.is false), .fr (kBool.is false), .fr (VP.ex undef), .fr (VP.ex undef), .fr (VP.ex undef), .fr (VP.ex undef), .fr (VP.ex undef), .fr (VP.ex undef), .fr (kBool.is false)]) (lates := [false, false, false, false, false, false, false, false, false, false, false, false, false, false, false, false, false, false, false, false, false, false]) (by kernel_rfl) (Chk.of rfl (by kernel_rfl) rfl) (fun _ _ _ _ _ h => h) (fun q_ x_ h_ => ?_) (fun σ4 => ?_)
      · match q_, h_ with
        | 0, h_ => cases h_; exact Ob.f rfl .n fun N => (O.mv rfl)
        | 1, h_ => cases h_; exact Ob.f rfl .n fun N => (OpOk.le (O.eq rfl rfl) (is_eq (decide_eq_false h5)))
        | 2, h_ => cases h_; exact Ob.f rfl .n fun N => (O.mv rfl)
        | 3, h_ => cases h_; exact Ob.ku (b := false) rfl rfl rfl
        | 4, h_ => cases h_; exact Ob.ku (b := false) rfl rfl rfl
        | 5, h_ => cases h_; exact Ob.ku (b := false) rfl rfl rfl
        | 6, h_ => cases h_; exact Ob.ku (b := false) rfl rfl rfl
        | 7, h_ => cases h_; exact Ob.ku (b := false) rfl rfl rfl
        | 8, h_ => cases h_; exact Ob.f rfl .n fun N => (O.pickF rfl rfl)
        | 9, h_ => cases h_; exact Ob.f rfl .n fun N => (O.mv rfl)
        | 10, h_ => cases h_; exact Ob.ku (b := false) rfl rfl rfl
        | 11, h_ => cases h_; exact Ob.ku (b := false) rfl rfl rfl
        | 12, h_ => cases h_; exact Ob.ku (b := false) rfl rfl rfl
        | 13, h_ => cases h_; exact Ob.f rfl .n fun N => (O.pickF rfl rfl)
        | 14, h_ => cases h_; exact Ob.f rfl .n fun N => (O.mv rfl)
        | 15, h_ => cases h_; exact Ob.ku (b := false) rfl rfl rfl
        | 16, h_ => cases h_; exact Ob.ku (b := false) rfl rfl rfl
        | 17, h_ => cases h_; exact Ob.ku (b := false) rfl rfl rfl
        | 18, h_ => cases h_; exact Ob.ku (b := false) rfl rfl rfl
        | 19, h_ => cases h_; exact Ob.ku (b := false) rfl rfl rfl
        | 20, h_ => cases h_; exact Ob.ku (b := false) rfl rfl rfl
        | 21, h_ => cases h_; exact Ob.f rfl .n fun N => (O.pickF rfl rfl)
        | n_ + 22, h_ => simp at h_
      refine WP.s .n (O.asg rfl) ?_
      refine WP.s .n (O.asg rfl) ?_
      refine WP.nil ?_
      refine QE.next ?_
      refine CW.ret ?_
      refine ST.told 4 rfl (is_eq (y := (shortV b sN sV sX)) (by rw [shortV_ok (by omega), decide_eq_false (bel_1 h5)])) ?_
      exact QE.done (.inl rfl) rfl (ResOk.t rfl (ResOk.tl rfl (is_eq (y := gsoE b true) (by first | rfl | omega | assumption)) ResOk.nil)) (OImp.sub (List.nil_sublist _)) ⟨rfl, rfl⟩

set_option maxRecDepth 20000 in
set_option maxHeartbeats 1000000 in
theorem c_ref16_Belongs (b : List (List Int)) (sN : Int) (sV sX : List Int) (sB sU : List (List Int)) (hN : Sz 33554432 sN) (hV : SzL 33554432 sV) (hX : SzL 33554432 sX) (hE : gsoE b true = 0) : Fn Try.prog 63 [(kSl (kSl kZ)).is b, (kPair kZ (kPair (kSl kZ) (kPair (kSl kZ) (kPair (kSl (kSl kZ)) (kSl (kSl kZ)))))).is (sN, sV, sX, sB, sU)] (kBool.is (decide (belP b sN sV sX))) := by
  refine Con.enter Try.func63 rfl rfl fun m w => ?_
  refine CW.seq ?_
  refine CW.region ?_
  refine WP.bx .n rfl fun b1 => ?_
  refine WP.s .n (O.asg rfl) ?_
  refine WP.nil ?_
  refine QE.next ?_
  refine CW.seq ?_
  have hZ := basis_of hE
  have hC := bel_C hZ hX 67108876 (by decide)
  have hSl := hC.sm (by decide)
  have hlC := combA_len sX b
  have hl12 := hZ.c 0
  have hd := bel_d hZ hC 134217764 (by decide)
  have hSd := hd.sm (by decide)
  have hSs := (hN.sub hd).sm (by decide)
  refine CW.region ?_
  refine WP.s .n (O.fa rfl fld100_2 rfl) ?_
  refine WP.s .n (O.ld (p := (kSl kZ).is sX) rfl (mem_at 0 rfl) (Lens.snd (Lens.snd (Lens.fst (Lens.id _)))) ty27 rfl) ?_
  refine WP.s .n (O.mv rfl) ?_
  refine WP.s .n (O.fn fn122 (evs.c rfl (evs.c rfl evs.nil)) (c_ref04_Combine 33554432 sX b (by first | assumption | exact hZ.z.up (by decide) | exact hZ.n | (have := hZ.n; omega)) (by first | assumption | exact hZ.z.up (by decide) | exact hZ.n | (have := hZ.n; omega)) (by first | assumption | exact hZ.z.up (by decide) | exact hZ.n | (have := hZ.n; omega)))) ?_
  refine WP.s .n (O.mv rfl) ?_
  refine WP.s .n (O.ext rfl rfl) ?_
  refine WP.s .n (O.ext rfl rfl) ?_
  refine WP.s .n (O.asg rfl) ?_
  refine WP.s .n (O.asg rfl) ?_
  refine WP.nil ?_
  refine QE.next ?_
  refine CW.seq ?_
  by_cases h5 : combE sX b = 0
  · by_cases h6 : ordV (combA sX b) sV = 0
    · by_cases h7 : 0 ≤ leadV (combA sX b) 0
      · refine CW.draw (Γ := [.fr ((kInt .i64).is (combE sX b)), .fr (kBool.is true), .fr (kBool.is true), .fr ((kSl kC).is (combA sX b)), .fr (VP.ex (.pointer (some ⟨b1, 2, none⟩))), .fr ((kSl kZ).is sV), .fr ((kInt .i64).is (ordV (combA sX b) sV)), .fr (kBool.is true), .fr (kBool.is true), .fr (kBool.is true), .fr ((kSl kC).is (combA sX b)), .fr ((kInt .i64).is (leadV (combA sX b) 0)), .fr (kBool.is true), .fr (kBool.is true), .fr (kBool.is true), .fr (VP.ex (.pointer (some ⟨b1, 0, none⟩))), .fr (kZ.is sN), .fr ((kSl kC).is (combA sX b)), .fr (kC.is (dotV (combA sX b) (combA sX b))), .fr ((kInt .i64).is ((sN - (dotV (combA sX b) (combA sX b))).sign)), .fr (kBool.is (decide (((sN - (dotV (combA sX b) (combA sX b))).sign) = 0))), .fr (kBool.is (decide (((sN - (dotV (combA sX b) (combA sX b))).sign) = 0)))]) (lates := [false, false, false, false, false, false, false, false, false, false, false, false, false, false, false, false, false, false, false, false, false, false]) (by kernel_rfl) (Chk.of rfl (by kernel_rfl) rfl) (fun _ _ _ _ _ h => h) (fun q_ x_ h_ => ?_) (fun σ1 => ?_)
        · match q_, h_ with
          | 0, h_ => cases h_; exact Ob.f rfl .n fun N => (O.mv rfl)
          | 1, h_ => cases h_; exact Ob.f rfl .n fun N => (OpOk.le (O.eq rfl rfl) (is_eq (decide_eq_true h5)))
          | 2, h_ => cases h_; exact Ob.f rfl .n fun N => (O.mv rfl)
          | 3, h_ => cases h_; exact Ob.f rfl (.g rfl rfl) fun N => (O.mv rfl)
          | 4, h_ => cases h_; exact Ob.f rfl (.g rfl rfl) fun N => (O.fa rfl fld100_1 rfl)
          | 5, h_ => cases h_; exact Ob.f rfl (.g rfl rfl) fun N => (O.ld (p := (kSl kZ).is sV) rfl (mem_app N (mem_at 0 rfl)) (Lens.snd (Lens.fst (Lens.id _))) ty27 rfl)
          | 6, h_ => cases h_; exact Ob.f rfl (.g rfl rfl) fun N => (O.fn fn123 (evs.l rfl (slC_Z (by first | exact hSl | exact hSd | exact hN.sm (by omega))) (evs.c rfl evs.nil)) (c_ref04_Order 67108876 (combA sX b) sV hC (hV.up (by decide)) (by decide)))
          | 7, h_ => cases h_; exact Ob.f rfl (.g rfl rfl) fun N => (OpOk.le (O.eq rfl rfl) (is_eq (decide_eq_true h6)))
          | 8, h_ => cases h_; exact Ob.f rfl .n fun N => (O.pickT rfl rfl)
          | 9, h_ => cases h_; exact Ob.f rfl .n fun N => (O.mv rfl)
          | 10, h_ => cases h_; exact Ob.f rfl (.g rfl rfl) fun N => (O.mv rfl)
          | 11, h_ => cases h_; exact Ob.f rfl (.g rfl rfl) fun N => (O.fn fn124 (evs.l rfl (slC_Z (by first | exact hSl | exact hSd | exact hN.sm (by omega))) evs.nil) (c_ref04_Lead (combA sX b)))
          | 12, h_ => cases h_; exact Ob.f rfl (.g rfl rfl) fun N => (OpOk.le (O.ge rfl rfl) (is_eq (decide_eq_true h7)))
          | 13, h_ => cases h_; exact Ob.f rfl .n fun N => (O.pickT rfl rfl)
          | 14, h_ => cases h_; exact Ob.f rfl .n fun N => (O.mv rfl)
          | 15, h_ => cases h_; exact Ob.f rfl (.g rfl rfl) fun N => (O.fa rfl fld100_0 rfl)
          | 16, h_ => cases h_; exact Ob.f rfl (.g rfl rfl) fun N => (O.ld (p := kZ.is sN) rfl (mem_app N (mem_at 0 rfl)) (Lens.fst (Lens.id _)) ty31 rfl)
          | 17, h_ => cases h_; exact Ob.f rfl (.g rfl rfl) fun N => (O.mv rfl)
          | 18, h_ => cases h_; exact Ob.f rfl (.g rfl rfl) fun N => (O.fn fn125 (evs.l rfl (slC_Z (by first | exact hSl | exact hSd | exact hN.sm (by omega))) evs.nil) (c_ref04_Norm 67108876 (combA sX b) hC (by omega)))
          | 19, h_ => cases h_; exact Ob.f rfl (.g rfl rfl) fun N => (O.fn fn88 (evs.c rfl (evs.l rfl (kC_Z (by first | exact hSl | exact hSd | exact hN.sm (by omega))) evs.nil)) (c_ref02_Cmp sN (dotV (combA sX b) (combA sX b)) hSs))
          | 20, h_ => cases h_; exact Ob.f rfl (.g rfl rfl) fun N => (O.eq rfl rfl)
          | 21, h_ => cases h_; exact Ob.f rfl .n fun N => (O.pickT rfl rfl)
          | n_ + 22, h_ => simp at h_
        refine WP.s .n (O.asg rfl) ?_
        refine WP.nil ?_
        refine QE.next ?_
        refine CW.ret ?_
        refine ST.told 4 rfl (is_eq (y := (decide (belP b sN sV sX))) (decide_eq_decide.2 (bel_5 h5 h6 h7))) ?_
        exact QE.done (.inl rfl) rfl (ResOk.t rfl ResOk.nil) (OImp.sub (List.nil_sublist _)) ⟨rfl, rfl⟩
      · refine CW.draw (Γ := [.fr ((kInt .i64).is (combE sX b)), .fr (kBool.is true), .fr (kBool.is true), .fr ((kSl kC).is (combA sX b)), .fr (VP.ex (.pointer (some ⟨b1, 2, none⟩))), .fr ((kSl kZ).is sV), .fr ((kInt .i64).is (ordV (combA sX b) sV)), .fr (kBool.is true), .fr (kBool.is true), .fr (kBool.is true), .fr ((kSl kC).is (combA sX b)), .fr ((kInt .i64).is (leadV (combA sX b) 0)), .fr (kBool.is false), .fr (kBool.is false), .fr (kBool.is false), .fr (VP.ex undef), .fr (VP.ex undef), .fr (VP.ex undef), .fr (VP.ex undef), .fr (VP.ex undef), .fr (VP.ex undef), .fr (kBool.is false)]) (lates := [false, false, false, false, false, false, false, false, false, false, false, false, false, false, false, false, false, false, false, false, false, false]) (by kernel_rfl) (Chk.of rfl (by kernel_rfl) rfl) (fun _ _ _ _ _ h => h) (fun q_ x_ h_ => ?_) (fun σ2 => ?_)
        · match q_, h_ with
          | 0, h_ => cases h_; exact Ob.f rfl .n fun N => (O.mv rfl)
          | 1, h_ => cases h_; exact Ob.f rfl .n fun N => (OpOk.le (O.eq rfl rfl) (is_eq (decide_eq_true h5)))
          | 2, h_ => cases h_; exact Ob.f rfl .n fun N => (O.mv rfl)
          | 3, h_ => cases h_; exact Ob.f rfl (.g rfl rfl) fun N => (O.mv rfl)
          | 4, h_ => cases h_; exact Ob.f rfl (.g rfl rfl) fun N => (O.fa rfl fld100_1 rfl)
          | 5, h_ => cases h_; exact Ob.f rfl (.g rfl rfl) fun N => (O.ld (p := (kSl kZ).is sV) rfl (mem_app N (mem_at 0 rfl)) (Lens.snd (Lens.fst (Lens.id _))) ty27 rfl)
          | 6, h_ => cases h_; exact Ob.f rfl (.g rfl rfl) fun N => (O.fn fn123 (evs.l rfl (slC_Z (by first | exact hSl | exact hSd | exact hN.sm (by omega))) (evs.c rfl evs.nil)) (c_ref04_Order 67108876 (combA sX b) sV hC (hV.up (by decide)) (by decide)))
          | 7, h_ => cases h_; exact Ob.f rfl (.g rfl rfl) fun N => (OpOk.le (O.eq rfl rfl) (is_eq (decide_eq_true h6)))
          | 8, h_ => cases h_; exact Ob.f rfl .n fun N => (O.pickT rfl rfl)
          | 9, h_ => cases h_; exact Ob.f rfl .n fun N => (O.mv rfl)
          | 10, h_ => cases h_; exact Ob.f rfl (.g rfl rfl) fun N => (O.mv rfl)
          | 11, h_ => cases h_; exact Ob.f rfl (.g rfl rfl) fun N => (O.fn fn124 (evs.l rfl (slC_Z (by first | exact hSl | exact hSd | exact hN.sm (by omega))) evs.nil) (c_ref04_Lead (combA sX b)))
          | 12, h_ => cases h_; exact Ob.f rfl (.g rfl rfl) fun N => (OpOk.le (O.ge rfl rfl) (is_eq (decide_eq_false h7)))
          | 13, h_ => cases h_; exact Ob.f rfl .n fun N => (O.pickT rfl rfl)
          | 14, h_ => cases h_; exact Ob.f rfl .n fun N => (O.mv rfl)
          | 15, h_ => cases h_; exact Ob.ku (b := false) rfl rfl rfl
          | 16, h_ => cases h_; exact Ob.ku (b := false) rfl rfl rfl
          | 17, h_ => cases h_; exact Ob.ku (b := false) rfl rfl rfl
          | 18, h_ => cases h_; exact Ob.ku (b := false) rfl rfl rfl
          | 19, h_ => cases h_; exact Ob.ku (b := false) rfl rfl rfl
          | 20, h_ => cases h_; exact Ob.ku (b := false) rfl rfl rfl
          | 21, h_ => cases h_; exact Ob.f rfl .n fun N => (O.pickF rfl rfl)
          | n_ + 22, h_ => simp at h_
        refine WP.s .n (O.asg rfl) ?_
        refine WP.nil ?_
        refine QE.next ?_
        refine CW.ret ?_
        refine ST.told 4 rfl (is_eq (y := (decide (belP b sN sV sX))) (decide_eq_false (bel_3 h7)).symm) ?_
        exact QE.done (.inl rfl) rfl (ResOk.t rfl ResOk.nil) (OImp.sub (List.nil_sublist _)) ⟨rfl, rfl⟩
    · refine CW.draw (Γ := [.fr ((kInt .i64).is (combE sX b)), .fr (kBool.is true), .fr (kBool.is true), .fr ((kSl kC).is (combA sX b)), .fr (VP.ex (.pointer (some ⟨b1, 2, none⟩))), .fr ((kSl kZ).is sV), .fr ((kInt .i64).is (ordV (combA sX b) sV)), .fr (kBool.is false), .fr (kBool.is false), .fr (kBool.is false), .fr (VP.ex undef), .fr (VP.ex undef), .fr (VP.ex undef), .fr (kBool.is false), .fr (kBool.is false), .fr (VP.ex undef), .fr (VP.ex undef), .fr (VP.ex undef), .fr (VP.ex undef), .fr (VP.ex undef), .fr (VP.ex undef), .fr (kBool.is false)]) (lates := [false, false, false, false, false, false, false, false, false, false, false, false, false, false, false, false, false, false, false, false, false, false]) (by kernel_rfl) (Chk.of rfl (by kernel_rfl) rfl) (fun _ _ _ _ _ h => h) (fun q_ x_ h_ => ?_) (fun σ3 => ?_)
      · match q_, h_ with
        | 0, h_ => cases h_; exact Ob.f rfl .n fun N => (O.mv rfl)
        | 1, h_ => cases h_; exact Ob.f rfl .n fun N => (OpOk.le (O.eq rfl rfl) (is_eq (decide_eq_true h5)))
        | 2, h_ => cases h_; exact Ob.f rfl .n fun N => (O.mv rfl)
        | 3, h_ => cases h_; exact Ob.f rfl (.g rfl rfl) fun N => (O.mv rfl)
        | 4, h_ => cases h_; exact Ob.f rfl (.g rfl rfl) fun N => (O.fa rfl fld100_1 rfl)
        | 5, h_ => cases h_; exact Ob.f rfl (.g rfl rfl) fun N => (O.ld (p := (kSl kZ).is sV) rfl (mem_app N (mem_at 0 rfl)) (Lens.snd (Lens.fst (Lens.id _))) ty27 rfl)
        | 6, h_ => cases h_; exact Ob.f rfl (.g rfl rfl) fun N => (O.fn fn123 (evs.l rfl (slC_Z (by first | exact hSl | exact hSd | exact hN.sm (by omega))) (evs.c rfl evs.nil)) (c_ref04_Order 67108876 (combA sX b) sV hC (hV.up (by decide)) (by decide)))
        | 7, h_ => cases h_; exact Ob.f rfl (.g rfl rfl) fun N => (OpOk.le (O.eq rfl rfl) (is_eq (decide_eq_false h6)))
        | 8, h_ => cases h_; exact Ob.f rfl .n fun N => (O.pickT rfl rfl)
        | 9, h_ => cases h_; exact Ob.f rfl .n fun N => (O.mv rfl)
        | 10, h_ => cases h_; exact Ob.ku (b := false) rfl rfl rfl
        | 11, h_ => cases h_; exact Ob.ku (b := false) rfl rfl rfl
        | 12, h_ => cases h_; exact Ob.ku (b := false) rfl rfl rfl
        | 13, h_ => cases h_; exact Ob.f rfl .n fun N => (O.pickF rfl rfl)
        | 14, h_ => cases h_; exact Ob.f rfl .n fun N => (O.mv rfl)
        | 15, h_ => cases h_; exact Ob.ku (b := false) rfl rfl rfl
        | 16, h_ => cases h_; exact Ob.ku (b := false) rfl rfl rfl
        | 17, h_ => cases h_; exact Ob.ku (b := false) rfl rfl rfl
        | 18, h_ => cases h_; exact Ob.ku (b := false) rfl rfl rfl
        | 19, h_ => cases h_; exact Ob.ku (b := false) rfl rfl rfl
        | 20, h_ => cases h_; exact Ob.ku (b := false) rfl rfl rfl
        | 21, h_ => cases h_; exact Ob.f rfl .n fun N => (O.pickF rfl rfl)
        | n_ + 22, h_ => simp at h_
      refine WP.s .n (O.asg rfl) ?_
      refine WP.nil ?_
      refine QE.next ?_
      refine CW.ret ?_
      refine ST.told 4 rfl (is_eq (y := (decide (belP b sN sV sX))) (decide_eq_false (bel_2 h6)).symm) ?_
      exact QE.done (.inl rfl) rfl (ResOk.t rfl ResOk.nil) (OImp.sub (List.nil_sublist _)) ⟨rfl, rfl⟩
  · refine CW.draw (Γ := [.fr ((kInt .i64).is (combE sX b)), .fr (kBool.is false), .fr (kBool.is false), .fr (VP.ex undef), .fr (VP.ex undef), .fr (VP.ex undef), .fr (VP.ex undef), .fr (VP.ex undef), .fr (kBool.is false), .fr (kBool.is false), .fr (VP.ex undef), .fr (VP.ex undef), .fr (VP.ex undef), .fr (kBool.is false), .fr (kBool.is false), .fr (VP.ex undef), .fr (VP.ex undef), .fr (VP.ex undef), .fr (VP.ex undef), .fr (VP.ex undef), .fr (VP.ex undef), .fr (kBool.is false)]) (lates := [false, false, false, false, false, false, false, false, false, false, false, false, false, false, false, false, false, false, false, false, false, false]) (by kernel_rfl) (Chk.of rfl (by kernel_rfl) rfl) (fun _ _ _ _ _ h => h) (fun q_ x_ h_ => ?_) (fun σ4 => ?_)
    · match q_, h_ with
      | 0, h_ => cases h_; exact Ob.f rfl .n fun N => (O.mv rfl)
      | 1, h_ => cases h_; exact Ob.f rfl .n fun N => (OpOk.le (O.eq rfl rfl) (is_eq (decide_eq_false h5)))
      | 2, h_ => cases h_; exact Ob.f rfl .n fun N => (O.mv rfl)
      | 3, h_ => cases h_; exact Ob.ku (b := false) rfl rfl rfl
      | 4, h_ => cases h_; exact Ob.ku (b := false) rfl rfl rfl
      | 5, h_ => cases h_; exact Ob.ku (b := false) rfl rfl rfl
      | 6, h_ => cases h_; exact Ob.ku (b := false) rfl rfl rfl
      | 7, h_ => cases h_; exact Ob.ku (b := false) rfl rfl rfl
      | 8, h_ => cases h_; exact Ob.f rfl .n fun N => (O.pickF rfl rfl)
      | 9, h_ => cases h_; exact Ob.f rfl .n fun N => (O.mv rfl)
      | 10, h_ => cases h_; exact Ob.ku (b := false) rfl rfl rfl
      | 11, h_ => cases h_; exact Ob.ku (b := false) rfl rfl rfl
      | 12, h_ => cases h_; exact Ob.ku (b := false) rfl rfl rfl
      | 13, h_ => cases h_; exact Ob.f rfl .n fun N => (O.pickF rfl rfl)
      | 14, h_ => cases h_; exact Ob.f rfl .n fun N => (O.mv rfl)
      | 15, h_ => cases h_; exact Ob.ku (b := false) rfl rfl rfl
      | 16, h_ => cases h_; exact Ob.ku (b := false) rfl rfl rfl
      | 17, h_ => cases h_; exact Ob.ku (b := false) rfl rfl rfl
      | 18, h_ => cases h_; exact Ob.ku (b := false) rfl rfl rfl
      | 19, h_ => cases h_; exact Ob.ku (b := false) rfl rfl rfl
      | 20, h_ => cases h_; exact Ob.ku (b := false) rfl rfl rfl
      | 21, h_ => cases h_; exact Ob.f rfl .n fun N => (O.pickF rfl rfl)
      | n_ + 22, h_ => simp at h_
    refine WP.s .n (O.asg rfl) ?_
    refine WP.nil ?_
    refine QE.next ?_
    refine CW.ret ?_
    refine ST.told 4 rfl (is_eq (y := (decide (belP b sN sV sX))) (decide_eq_false (bel_1 h5)).symm) ?_
    exact QE.done (.inl rfl) rfl (ResOk.t rfl ResOk.nil) (OImp.sub (List.nil_sublist _)) ⟨rfl, rfl⟩

set_option maxRecDepth 20000 in
set_option maxHeartbeats 1000000 in
theorem c_law16_ShortChecks (b : List (List Int)) (sN : Int) (sV sX : List Int) (sB sU : List (List Int)) (hN : Sz 33554432 sN) (hV : SzL 33554432 sV) (hX : SzL 33554432 sX) : Fn Try.prog 10 [(kSl (kSl kZ)).is b, (kPair kZ (kPair (kSl kZ) (kPair (kSl kZ) (kPair (kSl (kSl kZ)) (kSl (kSl kZ)))))).is (sN, sV, sX, sB, sU)] (kBool.is true) := by
  refine Con.enter Try.func10 rfl rfl fun m w => ?_
  refine CW.seq ?_
  refine CW.region ?_
  refine WP.bx .n rfl fun b1 => ?_
  refine WP.s .n (O.asg rfl) ?_
  refine WP.nil ?_
  refine QE.next ?_
  refine CW.seq ?_
  refine CW.draw (Γ := [.fr ((kSl (kSl kZ)).is b), .fr ((kSl (kSl kZ)).is b), .fr ((kPair kZ (kPair (kSl kZ) (kPair (kSl kZ) (kPair (kSl (kSl kZ)) (kSl (kSl kZ)))))).is (sN, sV, sX, sB, sU)), .fr (VP.tup [kBool.is (shortV b sN sV sX), (kInt .i64).is (gsoE b true)]), .fr (VP.tup [kBool.is (shortV b sN sV sX), (kInt .i64).is (gsoE b true)]), .fr (kBool.is (shortV b sN sV sX)), .lt ((kInt .i64).is (gsoE b true))]) (lates := [false, false, false, false, false, false, true]) (by kernel_rfl) (Chk.of rfl (by kernel_rfl) rfl) (fun _ _ _ _ _ h => h) (fun q_ x_ h_ => ?_) (fun σ1 => ?_)
  · match q_, h_ with
    | 0, h_ => cases h_; exact Ob.f rfl .n fun N => (O.mv rfl)
    | 1, h_ => cases h_; exact Ob.f rfl .n fun N => (O.fn fn61 (evs.c rfl evs.nil) (c_law16_ownm b))
    | 2, h_ => cases h_; exact Ob.f rfl .n fun N => (O.ld (p := (kPair kZ (kPair (kSl kZ) (kPair (kSl kZ) (kPair (kSl (kSl kZ)) (kSl (kSl kZ)))))).is (sN, sV, sX, sB, sU)) rfl (mem_app N (mem_at 0 rfl)) (Lens.id _) ty100 rfl)
    | 3, h_ => cases h_; exact Ob.f rfl .n fun N => (O.fn fn60 (evs.c rfl (evs.c rfl evs.nil)) (c_short_Check b sN sV sX sB sU (by first | assumption | omega) (by first | assumption | omega) (by first | assumption | omega)))
    | 4, h_ => cases h_; exact Ob.f rfl .n fun N => (O.mv rfl)
    | 5, h_ => cases h_; exact Ob.f rfl .n fun N => (O.ext rfl rfl)
    | 6, h_ => cases h_; exact Ob.l rfl .n (OV.ext rfl rfl)
    | n_ + 7, h_ => simp at h_
  refine WP.s .n (O.asg rfl) ?_
  refine WP.s .n (O.asg rfl) ?_
  refine WP.nil ?_
  refine QE.next ?_
  refine CW.seq ?_
  refine CW.region ?_
  refine WP.s .n (O.mv rfl) ?_
  refine WP.s .n (O.bld lit25_pr_i64_pr_i64_bool__ rfl (evp.c rfl (evp.c rfl evp.n)) (.cons rfl (Lens.fst (Lens.id _)) (.cons rfl (Lens.snd (Lens.fst (Lens.id _))) (.nil _)))) ?_
  refine WP.s .n (O.fn fn62 (evs.c rfl (evs.l rfl (is_eq (y := (1, 1, false)) (by first | rfl | omega | assumption)) evs.nil)) (c_ref16_Check b 1 1 false)) ?_
  refine WP.s .n (O.asg rfl) ?_
  refine WP.nil ?_
  refine QE.next ?_
  refine CW.seq ?_
  refine ST.told 7 rfl (is_eq (y := (gsoE b true)) (chk16_1 b)) ?_
  refine CW.region ?_
  refine WP.s .n (O.mv rfl) ?_
  refine WP.s .n (O.mv rfl) ?_
  refine WP.s .n (O.eq rfl rfl) ?_
  refine WP.s .n (O.mv rfl) ?_
  refine WP.splitD 21 rfl (fun h_t21 => ?_) (fun h => absurd rfl h)
  refine WP.s (.g rfl rfl) (O.mv rfl) ?_
  refine WP.s (.g rfl rfl) (O.mv rfl) ?_
  refine WP.s (.g rfl rfl) (O.eq rfl rfl) ?_
  refine WP.s (.g rfl rfl) (O.mv rfl) ?_
  refine WP.splitD 25 rfl (fun h_t25 => ?_) (fun h_t25 => ?_)
  · refine WP.s (.g rfl rfl) (O.mv rfl) ?_
    refine WP.s (.g rfl rfl) (O.ld (p := (kPair kZ (kPair (kSl kZ) (kPair (kSl kZ) (kPair (kSl (kSl kZ)) (kSl (kSl kZ)))))).is (sN, sV, sX, sB, sU)) rfl (mem_at 0 rfl) (Lens.id _) ty100 rfl) ?_
    refine WP.s (.g rfl rfl) (O.fn fn63 (evs.c rfl (evs.c rfl evs.nil)) (c_ref16_Belongs b sN sV sX sB sU (by first | assumption | omega) (by first | assumption | omega) (by first | assumption | omega) (by first | assumption | omega))) ?_
    refine WP.s (.g rfl rfl) (O.pickT rfl rfl) ?_
    refine WP.s (.g rfl rfl) (O.eqB rfl rfl Try.underlying4) ?_
    refine WP.s .n (O.pickT rfl rfl) ?_
    refine WP.s .n (O.asg rfl) ?_
    refine WP.nil ?_
    refine QE.next ?_
    refine CW.ret ?_
    refine ST.told 4 rfl (is_eq (y := true) (by rw [shortV_ok h_t25]; simp)) ?_
    exact QE.done (.inl rfl) rfl (ResOk.t rfl ResOk.nil) (OImp.sub (List.nil_sublist _)) ⟨rfl, rfl⟩
  · refine WP.ku (b := false) rfl rfl ?_
    refine WP.ku (b := false) rfl rfl ?_
    refine WP.ku (b := false) rfl rfl ?_
    refine WP.s (.g rfl rfl) (O.pickF rfl rfl) ?_
    refine WP.s (.g rfl rfl) (O.eqB rfl rfl Try.underlying4) ?_
    refine WP.s .n (O.pickT rfl rfl) ?_
    refine WP.s .n (O.asg rfl) ?_
    refine WP.nil ?_
    refine QE.next ?_
    refine CW.ret ?_
    refine ST.told 4 rfl (is_eq (y := true) (by rw [shortV_no h_t25]; rfl)) ?_
    exact QE.done (.inl rfl) rfl (ResOk.t rfl ResOk.nil) (OImp.sub (List.nil_sublist _)) ⟨rfl, rfl⟩

end Fw


/- Plain facts: sizes of what the statements are asked about. -/
set_option linter.unusedVariables false
namespace Fw
open Go

theorem Sz_ZB {z : Int} (h : ZB z) : Sz 33554432 z := by
  obtain ⟨n, hn, h⟩ := ZB_lt h
  exact Sz.up h hn
theorem SzL_ZB {u : List Int} (h : ∀ x ∈ u, ZB x) : SzL 33554432 u := fun i => by
  by_cases hi : i < u.length
  · exact Sz_ZB (h _ (getD_mem 0 hi))
  · rw [List.getD_eq_getElem?_getD, List.getElem?_eq_none (by omega)]; exact Sz.zero _

end Fw

