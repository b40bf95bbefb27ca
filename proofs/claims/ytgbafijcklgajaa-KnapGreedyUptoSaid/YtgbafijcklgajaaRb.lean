/- What the document's functions of layers 1 and 2 answer. -/
import Derived.Test.YtgbafijcklgajaaQRb
import Derived.Test.YtgbafijcklgajaaZb
import Derived.Test.YtgbafijcklgajaaRa
set_option linter.unusedVariables false
set_option linter.unusedSimpArgs false
set_option exponentiation.threshold 70
namespace Fw
open Go Go.Proofs

set_option maxRecDepth 20000 in
set_option maxHeartbeats 1000000 in
theorem c_ref01_Norm (l : List Nat) : Fn Try.prog 158 [kN.is l] (kN.is (limbs (nval l))) := by
  refine Con.enter Try.func158 rfl rfl fun m w => ?_
  refine ST.fact (i := 0) rfl sl_len fun hB => ?_
  refine ST.fact (i := 0) rfl kN_lims fun hL => ?_
  refine CW.seq ?_
  refine CW.region ?_
  refine WP.s .n (O.asg rfl) ?_
  refine WP.nil ?_
  refine QE.next ?_
  refine CW.seq ?_
  refine CW.region ?_
  refine WP.s .n (O.mv rfl) ?_
  refine WP.s .n (O.lenS rfl Try.underlying29) ?_
  refine WP.s .n (O.asg rfl) ?_
  refine WP.nil ?_
  refine QE.next ?_
  refine CW.seq ?_
  refine CW.block ?_
  refine CW.loop (fun (i : Nat) => i ≤ l.length ∧ nval (l.take i) = nval l) (fun (i : Nat) => [(0, kN.is l), (3, (kInt .i64).is (i : Int))]) (fun (i : Nat) => []) (fun (i : Nat) => i) l.length ⟨Nat.le_refl _, by rw [List.take_length]⟩ (Imp.cons rfl (Imp.consLe rfl (is_eq (y := ((l.length : Nat) : Int)) (by first | omega | simp)) Imp.nil)) (OImp.refl _) ?_
  intro i ⟨hi, hr⟩
  refine CW.seq ?_
  refine CW.seq ?_
  refine CW.region ?_
  refine WP.s .n (O.mv rfl) ?_
  refine WP.s .n (O.gt rfl rfl) ?_
  refine WP.s .n (O.mv rfl) ?_
  refine WP.splitD 10 rfl (fun h_t10 => ?_) (fun h_t10 => ?_)
  · have h_t10' : 0 < i := by omega
    refine WP.s (.g rfl rfl) (O.mv rfl) ?_
    refine WP.s (.g rfl rfl) (O.mv rfl) ?_
    refine WP.s (.g rfl rfl) (O.sub rfl rfl (c := ((i : Int) - 1)) (w64 (by omega))) ?_
    refine WP.s (.g rfl rfl) (O.ix (i - 1) rfl rfl Try.underlying29 ty121 (by omega) (v := (l.getD (i - 1) 0)) (gd 0 (by omega))) ?_
    refine WP.s (.g rfl rfl) (OpOk.le (O.ldP rfl ty121) (limb_le _)) ?_
    refine WP.s (.g rfl rfl) (O.eq rfl rfl) ?_
    refine WP.s .n (O.pickT rfl rfl) ?_
    refine WP.nil ?_
    refine QE.next ?_
    refine CW.condD rfl (fun h_t17 => ?_) (fun h_t17 => ?_)
    · refine CW.skip ?_
      refine QE.next ?_
      refine CW.block ?_
      refine CW.region ?_
      refine WP.s .n (O.mv rfl) ?_
      refine WP.s .n (O.sub rfl rfl (c := ((i : Int) - 1)) (w64 (by omega))) ?_
      refine WP.s .n (O.asg rfl) ?_
      refine WP.nil ?_
      refine QE.blkN ?_
      exact QE.round (i - 1) (by omega) ⟨by omega, (trim_down hi h_t10' (by rw [getD_take (by omega)]; exact h_t17)).trans hr⟩ (Imp.cons rfl (Imp.consLe rfl (is_eq (y := (((i - 1) : Nat) : Int)) (by first | omega | simp)) Imp.nil)) (OImp.refl _)
    · refine CW.exit ?_
      refine QE.thenE ?_
      refine QE.thenE ?_
      refine QE.blkH ?_
      refine QE.next ?_
      refine CW.seq ?_
      refine CW.region ?_
      refine WP.s .n (O.asg rfl) ?_
      refine WP.nil ?_
      refine QE.next ?_
      refine CW.seq ?_
      refine CW.seq ?_
      refine CW.region ?_
      refine WP.s .n (O.asg rfl) ?_
      refine WP.nil ?_
      refine QE.next ?_
      refine CW.block ?_
      have hlim : l.take i = limbs (nval l) := trim_stop hL hi h_t10' (by rw [getD_take (by omega)]; exact h_t17) hr
      refine ST.nilrow 121 kLimb ?_
      refine CW.loop2 (fun (j : Nat) (v : Value) => j ≤ i) (fun (j : Nat) (v : Value) => [(0, kN.is l), (3, (kInt .i64).is (i : Int)), (4, VP.ex v), (5, (kInt .i64).is (j : Int))]) (fun (j : Nat) (v : Value) => [OB.row v 121 kLimb (l.take j)]) (fun (j : Nat) (v : Value) => i - j) 0 (.slice none 0 0) (by omega) (Imp.cons rfl (Imp.cons rfl (Imp.cons rfl (Imp.consLe rfl (is_eq (y := (0 : Int)) (by first | omega | simp)) Imp.nil)))) (OImp.os (OS.keepLe (OB.row_eq (by first | omega | simp)) OS.nil)) ?_
      intro j v hj
      have hx := getD_lt hL j
      have htl : (l.take j).length = j := by simp; omega
      refine CW.seq ?_
      refine CW.seq ?_
      refine CW.region ?_
      refine WP.s .n (O.mv rfl) ?_
      refine WP.s .n (O.mv rfl) ?_
      refine WP.s .n (O.lt rfl rfl) ?_
      refine WP.nil ?_
      refine QE.next ?_
      refine CW.condD rfl (fun h_t22 => ?_) (fun h_t22 => ?_)
      · refine CW.skip ?_
        refine QE.next ?_
        refine CW.seq ?_
        refine CW.block ?_
        refine CW.region ?_
        refine WP.s .n (O.mv rfl) ?_
        refine WP.s .n (O.mv rfl) ?_
        refine WP.s .n (O.mv rfl) ?_
        refine WP.s .n (O.ix j rfl rfl Try.underlying29 ty121 rfl (v := (l.getD j 0)) (gd 0 (by omega))) ?_
        refine WP.s .n (OpOk.le (O.ldP rfl ty121) (limb_le _)) ?_
        refine WP.s .n (O.bs Try.underlying29 el121_limb (evl.l rfl (u32_limb (x := (l.getD j 0)) (by omega)) evl.n) rfl (by decide)) ?_
        refine WP.ap 0 .n rfl rfl rfl (VP.le_refl _) Try.underlying29 el121_limb (by simp; omega) fun v1 => ?_
        refine WP.s .n (O.asg rfl) ?_
        refine WP.nil ?_
        refine QE.blkN ?_
        refine QE.next ?_
        refine CW.region ?_
        refine WP.s .n (O.mv rfl) ?_
        refine WP.s .n (O.add rfl rfl (c := ((j : Int) + 1)) (w64 (by omega))) ?_
        refine WP.s .n (O.asg rfl) ?_
        refine WP.nil ?_
        refine ST.obtold 0 rfl (OB.row_eq (ys := (l.take (j + 1))) (take_app1 (by omega))) ?_
        exact QE.round2 (j + 1) v1 (by omega) (by omega) (Imp.cons rfl (Imp.cons rfl (Imp.cons rfl (Imp.consLe rfl (is_eq (y := (((j + 1) : Nat) : Int)) (by first | omega | simp)) Imp.nil)))) (OImp.refl _)
      · refine CW.exit ?_
        refine QE.thenE ?_
        refine QE.thenE ?_
        refine QE.blkH ?_
        refine QE.next ?_
        refine CW.seq ?_
        refine CW.region ?_
        refine WP.s .n (O.mv rfl) ?_
        refine WP.s .n (O.asg rfl) ?_
        refine WP.nil ?_
        refine QE.next ?_
        refine CW.ret ?_
        refine ST.freeze 0 rfl (.keep (i := 0) rfl (.hit (i := 2) rfl (.keep (i := 3) rfl (.hit (i := 4) rfl (.keep (i := 5) rfl (.keep (i := 20) rfl (.keep (i := 21) rfl (.keep (i := 22) rfl (.hit (i := 32) rfl .nil))))))))) ?_
        refine ST.told 2 rfl (is_eq (y := (limbs (nval l))) (by rw [← hlim, show j = i from by omega])) ?_
        exact QE.done (.inl rfl) rfl (ResOk.t rfl ResOk.nil) (OImp.sub (List.nil_sublist _)) ⟨rfl, rfl⟩
  · refine WP.k (b := false) rfl rfl ?_
    refine WP.k (b := false) rfl rfl ?_
    refine WP.k (b := false) rfl rfl ?_
    refine WP.k (b := false) rfl rfl ?_
    refine WP.k (b := false) rfl rfl ?_
    refine WP.k (b := false) rfl rfl ?_
    refine WP.s .n (O.pickF rfl rfl) ?_
    refine WP.nil ?_
    refine QE.next ?_
    refine CW.condF rfl ?_
    refine CW.exit ?_
    refine QE.thenE ?_
    refine QE.thenE ?_
    refine QE.blkH ?_
    refine QE.next ?_
    refine CW.seq ?_
    refine CW.region ?_
    refine WP.s .n (O.asg rfl) ?_
    refine WP.nil ?_
    refine QE.next ?_
    refine CW.seq ?_
    refine CW.seq ?_
    refine CW.region ?_
    refine WP.s .n (O.asg rfl) ?_
    refine WP.nil ?_
    refine QE.next ?_
    refine CW.block ?_
    have hlim : l.take i = limbs (nval l) := trim_stop0 hr (by omega)
    refine ST.nilrow 121 kLimb ?_
    refine CW.loop2 (fun (j : Nat) (v : Value) => j ≤ i) (fun (j : Nat) (v : Value) => [(0, kN.is l), (3, (kInt .i64).is (i : Int)), (4, VP.ex v), (5, (kInt .i64).is (j : Int))]) (fun (j : Nat) (v : Value) => [OB.row v 121 kLimb (l.take j)]) (fun (j : Nat) (v : Value) => i - j) 0 (.slice none 0 0) (by omega) (Imp.cons rfl (Imp.cons rfl (Imp.cons rfl (Imp.consLe rfl (is_eq (y := (0 : Int)) (by first | omega | simp)) Imp.nil)))) (OImp.os (OS.keepLe (OB.row_eq (by first | omega | simp)) OS.nil)) ?_
    intro j v hj
    have hx := getD_lt hL j
    have htl : (l.take j).length = j := by simp; omega
    refine CW.seq ?_
    refine CW.seq ?_
    refine CW.region ?_
    refine WP.s .n (O.mv rfl) ?_
    refine WP.s .n (O.mv rfl) ?_
    refine WP.s .n (O.lt rfl rfl) ?_
    refine WP.nil ?_
    refine QE.next ?_
    refine CW.condD rfl (fun h_t22 => ?_) (fun h_t22 => ?_)
    · refine CW.skip ?_
      refine QE.next ?_
      refine CW.seq ?_
      refine CW.block ?_
      refine CW.region ?_
      refine WP.s .n (O.mv rfl) ?_
      refine WP.s .n (O.mv rfl) ?_
      refine WP.s .n (O.mv rfl) ?_
      refine WP.s .n (O.ix j rfl rfl Try.underlying29 ty121 rfl (v := (l.getD j 0)) (gd 0 (by omega))) ?_
      refine WP.s .n (OpOk.le (O.ldP rfl ty121) (limb_le _)) ?_
      refine WP.s .n (O.bs Try.underlying29 el121_limb (evl.l rfl (u32_limb (x := (l.getD j 0)) (by omega)) evl.n) rfl (by decide)) ?_
      refine WP.ap 0 .n rfl rfl rfl (VP.le_refl _) Try.underlying29 el121_limb (by simp; omega) fun v2 => ?_
      refine WP.s .n (O.asg rfl) ?_
      refine WP.nil ?_
      refine QE.blkN ?_
      refine QE.next ?_
      refine CW.region ?_
      refine WP.s .n (O.mv rfl) ?_
      refine WP.s .n (O.add rfl rfl (c := ((j : Int) + 1)) (w64 (by omega))) ?_
      refine WP.s .n (O.asg rfl) ?_
      refine WP.nil ?_
      refine ST.obtold 0 rfl (OB.row_eq (ys := (l.take (j + 1))) (take_app1 (by omega))) ?_
      exact QE.round2 (j + 1) v2 (by omega) (by omega) (Imp.cons rfl (Imp.cons rfl (Imp.cons rfl (Imp.consLe rfl (is_eq (y := (((j + 1) : Nat) : Int)) (by first | omega | simp)) Imp.nil)))) (OImp.refl _)
    · refine CW.exit ?_
      refine QE.thenE ?_
      refine QE.thenE ?_
      refine QE.blkH ?_
      refine QE.next ?_
      refine CW.seq ?_
      refine CW.region ?_
      refine WP.s .n (O.mv rfl) ?_
      refine WP.s .n (O.asg rfl) ?_
      refine WP.nil ?_
      refine QE.next ?_
      refine CW.ret ?_
      refine ST.freeze 0 rfl (.keep (i := 0) rfl (.hit (i := 2) rfl (.keep (i := 3) rfl (.hit (i := 4) rfl (.keep (i := 5) rfl (.keep (i := 20) rfl (.keep (i := 21) rfl (.keep (i := 22) rfl (.hit (i := 32) rfl .nil))))))))) ?_
      refine ST.told 2 rfl (is_eq (y := (limbs (nval l))) (by rw [← hlim, show j = i from by omega])) ?_
      exact QE.done (.inl rfl) rfl (ResOk.t rfl ResOk.nil) (OImp.sub (List.nil_sublist _)) ⟨rfl, rfl⟩

set_option maxRecDepth 20000 in
set_option maxHeartbeats 1000000 in
theorem c_ref01_limb (l : List Nat) (i : Nat) : Fn Try.prog 200 [kN.is l, (kInt .i64).is (i : Int)] ((kInt .u64).is (l.getD i 0 : Int)) := by
  refine Con.enter Try.func200 rfl rfl fun m w => ?_
  refine ST.fact (i := 0) rfl kN_lims fun hL => ?_
  have hx := getD_lt hL i
  refine CW.seq ?_
  refine CW.region ?_
  refine WP.s .n (O.asg rfl) ?_
  refine WP.nil ?_
  refine QE.next ?_
  refine CW.seq ?_
  refine CW.seq ?_
  refine CW.region ?_
  refine WP.s .n (O.mv rfl) ?_
  refine WP.s .n (O.mv rfl) ?_
  refine WP.s .n (O.lenS rfl Try.underlying29) ?_
  refine WP.s .n (O.lt rfl rfl) ?_
  refine WP.nil ?_
  refine QE.next ?_
  refine CW.condD rfl (fun h_t8 => ?_) (fun h_t8 => ?_)
  · refine CW.seq ?_
    refine CW.region ?_
    refine WP.s .n (O.mv rfl) ?_
    refine WP.s .n (O.mv rfl) ?_
    refine WP.s .n (O.ix i rfl rfl Try.underlying29 ty121 rfl (v := (l.getD i 0)) (gd 0 (by omega))) ?_
    refine WP.s .n (OpOk.le (O.ldP rfl ty121) (limb_le _)) ?_
    refine WP.s .n (O.cvt rfl Try.underlying121 Try.underlying173 (c := ((l.getD i 0) : Int)) (wu64 (by omega))) ?_
    refine WP.s .n (O.asg rfl) ?_
    refine WP.nil ?_
    refine QE.next ?_
    refine CW.ret ?_
    refine QE.thenR ?_
    exact QE.done (.inl rfl) rfl (ResOk.tl rfl (is_eq (y := (l.getD i 0 : Int)) (by first | omega | (rw [getD_out (by omega)]; rfl))) ResOk.nil) (OImp.sub (List.nil_sublist _)) ⟨rfl, rfl⟩
  · refine CW.skip ?_
    refine QE.next ?_
    refine CW.seq ?_
    refine CW.region ?_
    refine WP.s .n (O.asg rfl) ?_
    refine WP.nil ?_
    refine QE.next ?_
    refine CW.ret ?_
    exact QE.done (.inl rfl) rfl (ResOk.tl rfl (is_eq (y := (l.getD i 0 : Int)) (by first | omega | (rw [getD_out (by omega)]; rfl))) ResOk.nil) (OImp.sub (List.nil_sublist _)) ⟨rfl, rfl⟩

set_option maxRecDepth 20000 in
set_option maxHeartbeats 1000000 in
theorem c_ref01_most (a b : Int) : Fn Try.prog 199 [(kInt .i64).is a, (kInt .i64).is b] ((kInt .i64).is (max a b)) := by
  refine Con.enter Try.func199 rfl rfl fun m w => ?_
  refine CW.seq ?_
  refine CW.region ?_
  refine WP.s .n (O.asg rfl) ?_
  refine WP.nil ?_
  refine QE.next ?_
  refine CW.seq ?_
  refine CW.seq ?_
  refine CW.region ?_
  refine WP.s .n (O.mv rfl) ?_
  refine WP.s .n (O.mv rfl) ?_
  refine WP.s .n (O.gt rfl rfl) ?_
  refine WP.nil ?_
  refine QE.next ?_
  refine CW.condD rfl (fun h_t7 => ?_) (fun h_t7 => ?_)
  · refine CW.seq ?_
    refine CW.region ?_
    refine WP.s .n (O.mv rfl) ?_
    refine WP.s .n (O.asg rfl) ?_
    refine WP.nil ?_
    refine QE.next ?_
    refine CW.ret ?_
    refine QE.thenR ?_
    exact QE.done (.inl rfl) rfl (ResOk.tl rfl (is_eq (y := max a b) (by omega)) ResOk.nil) (OImp.sub (List.nil_sublist _)) ⟨rfl, rfl⟩
  · refine CW.skip ?_
    refine QE.next ?_
    refine CW.seq ?_
    refine CW.region ?_
    refine WP.s .n (O.mv rfl) ?_
    refine WP.s .n (O.asg rfl) ?_
    refine WP.nil ?_
    refine QE.next ?_
    refine CW.ret ?_
    exact QE.done (.inl rfl) rfl (ResOk.tl rfl (is_eq (y := max a b) (by omega)) ResOk.nil) (OImp.sub (List.nil_sublist _)) ⟨rfl, rfl⟩

set_option maxRecDepth 20000 in
set_option maxHeartbeats 1000000 in
theorem c_ref01_Cmp (a b : List Nat) : Fn Try.prog 154 [kN.is a, kN.is b] ((kInt .i64).is (cmpI (nval a) (nval b))) := by
  refine Con.enter Try.func154 rfl rfl fun m w => ?_
  refine ST.fact (i := 0) rfl sl_len fun hA => ?_
  refine ST.fact (i := 1) rfl sl_len fun hB => ?_
  refine ST.fact (i := 0) rfl kN_lims fun lA => ?_
  refine ST.fact (i := 1) rfl kN_lims fun lB => ?_
  refine CW.seq ?_
  refine CW.region ?_
  refine WP.s .n (O.asg rfl) ?_
  refine WP.nil ?_
  refine QE.next ?_
  refine CW.seq ?_
  refine CW.seq ?_
  refine CW.region ?_
  refine WP.s .n (O.mv rfl) ?_
  refine WP.s .n (O.lenS rfl Try.underlying29) ?_
  refine WP.s .n (O.mv rfl) ?_
  refine WP.s .n (O.lenS rfl Try.underlying29) ?_
  refine WP.s .n (O.fn fn199 (evs.c rfl (evs.c rfl evs.nil)) (c_ref01_most (a.length : Int) (b.length : Int))) ?_
  refine WP.s .n (O.sub rfl rfl (c := ((max (a.length : Int) (b.length : Int)) - 1)) (w64 (by omega))) ?_
  refine WP.s .n (O.asg rfl) ?_
  refine WP.nil ?_
  refine QE.next ?_
  refine CW.block ?_
  refine CW.loop (fun (i : Nat) => i ≤ max a.length b.length ∧ nval (a.drop i) = nval (b.drop i)) (fun (i : Nat) => [(0, kN.is a), (1, kN.is b), (5, (kInt .i64).is ((i : Int) - 1))]) (fun (i : Nat) => []) (fun (i : Nat) => i) (max a.length b.length) ⟨Nat.le_refl _, drop_max rfl⟩ (Imp.cons rfl (Imp.cons rfl (Imp.consLe rfl (is_eq (y := (((max a.length b.length) : Nat) : Int) - 1) (by omega)) Imp.nil))) (OImp.refl _) ?_
  intro i ⟨hi, hd⟩
  refine CW.seq ?_
  refine CW.seq ?_
  refine CW.region ?_
  refine WP.s .n (O.mv rfl) ?_
  refine WP.s .n (O.ge rfl rfl) ?_
  refine WP.nil ?_
  refine QE.next ?_
  refine CW.condD rfl (fun h_t15 => ?_) (fun h_t15 => ?_)
  · refine CW.skip ?_
    refine QE.next ?_
    refine CW.seq ?_
    refine CW.block ?_
    refine CW.seq ?_
    refine CW.region ?_
    refine WP.s .n (O.mv rfl) ?_
    refine WP.s .n (O.mv rfl) ?_
    refine WP.s .n (O.fn fn200 (evs.c rfl (evs.l rfl (is_eq (y := (((i - 1) : Nat) : Int)) (by omega)) evs.nil)) (c_ref01_limb a (i - 1))) ?_
    refine WP.s .n (O.asg rfl) ?_
    refine WP.nil ?_
    refine QE.next ?_
    refine CW.seq ?_
    refine CW.region ?_
    refine WP.s .n (O.mv rfl) ?_
    refine WP.s .n (O.mv rfl) ?_
    refine WP.s .n (O.fn fn200 (evs.c rfl (evs.l rfl (is_eq (y := (((i - 1) : Nat) : Int)) (by omega)) evs.nil)) (c_ref01_limb b (i - 1))) ?_
    refine WP.s .n (O.asg rfl) ?_
    refine WP.nil ?_
    refine QE.next ?_
    refine CW.seq ?_
    refine CW.seq ?_
    refine CW.region ?_
    refine WP.s .n (O.mv rfl) ?_
    refine WP.s .n (O.mv rfl) ?_
    refine WP.s .n (O.lt rfl rfl) ?_
    refine WP.nil ?_
    refine QE.next ?_
    refine CW.condD rfl (fun h_t26 => ?_) (fun h_t26 => ?_)
    · refine CW.seq ?_
      refine CW.region ?_
      refine WP.s .n (O.asg rfl) ?_
      refine WP.nil ?_
      refine QE.next ?_
      refine CW.ret ?_
      refine QE.thenR ?_
      refine QE.blkR ?_
      refine QE.thenR ?_
      refine QE.thenR ?_
      refine QE.blkR ?_
      refine QE.thenR ?_
      refine ST.told 4 rfl (is_eq (y := (cmpI (nval a) (nval b))) (rcmp_lt (i := i) (by omega) hd lA (by omega))) ?_
      exact QE.done (.inl rfl) rfl (ResOk.t rfl ResOk.nil) (OImp.sub (List.nil_sublist _)) ⟨rfl, rfl⟩
    · refine CW.skip ?_
      refine QE.next ?_
      refine CW.seq ?_
      refine CW.region ?_
      refine WP.s .n (O.mv rfl) ?_
      refine WP.s .n (O.mv rfl) ?_
      refine WP.s .n (O.gt rfl rfl) ?_
      refine WP.nil ?_
      refine QE.next ?_
      refine CW.condD rfl (fun h_t29 => ?_) (fun h_t29 => ?_)
      · refine CW.seq ?_
        refine CW.region ?_
        refine WP.s .n (O.asg rfl) ?_
        refine WP.nil ?_
        refine QE.next ?_
        refine CW.ret ?_
        refine QE.blkR ?_
        refine QE.thenR ?_
        refine QE.thenR ?_
        refine QE.blkR ?_
        refine QE.thenR ?_
        refine ST.told 4 rfl (is_eq (y := (cmpI (nval a) (nval b))) (rcmp_gt (i := i) (by omega) hd lB (by omega))) ?_
        exact QE.done (.inl rfl) rfl (ResOk.t rfl ResOk.nil) (OImp.sub (List.nil_sublist _)) ⟨rfl, rfl⟩
      · refine CW.skip ?_
        refine QE.blkN ?_
        refine QE.next ?_
        refine CW.region ?_
        refine WP.s .n (O.mv rfl) ?_
        refine WP.s .n (O.sub rfl rfl (c := (((i : Int) - 1) - 1)) (w64 (by omega))) ?_
        refine WP.s .n (O.asg rfl) ?_
        refine WP.nil ?_
        exact QE.round (i - 1) (by omega) ⟨by omega, rcmp_down (by omega) hd (by omega)⟩ (Imp.cons rfl (Imp.cons rfl (Imp.consLe rfl (is_eq (y := (((i - 1) : Nat) : Int) - 1) (by omega)) Imp.nil))) (OImp.refl _)
  · refine CW.exit ?_
    refine QE.thenE ?_
    refine QE.thenE ?_
    refine QE.blkH ?_
    refine QE.next ?_
    refine CW.seq ?_
    refine CW.region ?_
    refine WP.s .n (O.asg rfl) ?_
    refine WP.nil ?_
    refine QE.next ?_
    refine CW.ret ?_
    refine ST.told 4 rfl (is_eq (y := (cmpI (nval a) (nval b))) (rcmp_eq (i := i) (by omega) hd)) ?_
    exact QE.done (.inl rfl) rfl (ResOk.t rfl ResOk.nil) (OImp.sub (List.nil_sublist _)) ⟨rfl, rfl⟩

set_option maxRecDepth 20000 in
set_option maxHeartbeats 1000000 in
theorem c_ref01_Bits (l : List Nat) : Fn Try.prog 164 [kN.is l] ((kInt .i64).is (bitlen (nval l) : Int)) := by
  refine Con.enter Try.func164 rfl rfl fun m w => ?_
  refine ST.fact (i := 0) rfl sl_len fun hA => ?_
  refine ST.fact (i := 0) rfl kN_lims fun hL => ?_
  refine CW.seq ?_
  refine CW.region ?_
  refine WP.s .n (O.asg rfl) ?_
  refine WP.nil ?_
  refine QE.next ?_
  refine CW.seq ?_
  refine CW.seq ?_
  refine CW.region ?_
  refine WP.s .n (O.mv rfl) ?_
  refine WP.s .n (O.lenS rfl Try.underlying29) ?_
  refine WP.s .n (O.sub rfl rfl (c := ((l.length : Int) - 1)) (w64 (by omega))) ?_
  refine WP.s .n (O.asg rfl) ?_
  refine WP.nil ?_
  refine QE.next ?_
  refine CW.block ?_
  refine CW.loop (fun (i : Nat) => i ≤ l.length ∧ nval (l.drop i) = 0) (fun (i : Nat) => [(0, kN.is l), (3, (kInt .i64).is ((i : Int) - 1))]) (fun (i : Nat) => []) (fun (i : Nat) => i) l.length ⟨Nat.le_refl _, by rw [List.drop_length]; rfl⟩ (Imp.cons rfl (Imp.consLe rfl (is_eq (y := ((l.length : Nat) : Int) - 1) (by omega)) Imp.nil)) (OImp.refl _) ?_
  intro i ⟨hi, hd⟩
  refine CW.seq ?_
  refine CW.seq ?_
  refine CW.region ?_
  refine WP.s .n (O.mv rfl) ?_
  refine WP.s .n (O.ge rfl rfl) ?_
  refine WP.nil ?_
  refine QE.next ?_
  refine CW.condD rfl (fun h_t10 => ?_) (fun h_t10 => ?_)
  · refine CW.skip ?_
    refine QE.next ?_
    refine CW.seq ?_
    refine CW.block ?_
    refine CW.seq ?_
    have hx := getD_lt hL (i - 1)
    have hbl := @bitlen_le (l.getD (i - 1) 0) 32 hx
    refine CW.region ?_
    refine WP.s .n (O.mv rfl) ?_
    refine WP.s .n (O.mv rfl) ?_
    refine WP.s .n (O.ix (i - 1) rfl rfl Try.underlying29 ty121 (by omega) (v := (l.getD (i - 1) 0)) (gd 0 (by omega))) ?_
    refine WP.s .n (OpOk.le (O.ldP rfl ty121) (limb_le _)) ?_
    refine WP.s .n (O.ne rfl rfl) ?_
    refine WP.nil ?_
    refine QE.next ?_
    refine CW.condD rfl (fun h_t17 => ?_) (fun h_t17 => ?_)
    · refine CW.seq ?_
      refine CW.region ?_
      refine WP.s .n (O.mv rfl) ?_
      refine WP.s .n (O.mul rfl rfl (c := (32 * ((i : Int) - 1))) (w64 (by omega))) ?_
      refine WP.s .n (O.asg rfl) ?_
      refine WP.nil ?_
      refine QE.next ?_
      refine CW.seq ?_
      refine CW.seq ?_
      refine CW.region ?_
      refine WP.s .n (O.mv rfl) ?_
      refine WP.s .n (O.mv rfl) ?_
      refine WP.s .n (O.ix (i - 1) rfl rfl Try.underlying29 ty121 (by omega) (v := (l.getD (i - 1) 0)) (gd 0 (by omega))) ?_
      refine WP.s .n (OpOk.le (O.ldP rfl ty121) (limb_le _)) ?_
      refine WP.s .n (O.asg rfl) ?_
      refine WP.nil ?_
      refine QE.next ?_
      refine CW.block ?_
      refine CW.loop2 (fun (n : Nat) (w : Nat) => n + bitlen w = 32 * (i - 1) + bitlen (l.getD (i - 1) 0) ∧ w < 4294967296) (fun (n : Nat) (w : Nat) => [(4, (kInt .i64).is (n : Int)), (5, (kInt .u32).is (w : Int))]) (fun (n : Nat) (w : Nat) => []) (fun (n : Nat) (w : Nat) => w) (32 * (i - 1)) (l.getD (i - 1) 0) ⟨rfl, hx⟩ (Imp.consLe rfl (is_eq (y := (((32 * (i - 1)) : Nat) : Int)) (by omega)) (Imp.consLe rfl (is_eq (y := (((l.getD (i - 1) 0) : Nat) : Int)) (by omega)) Imp.nil)) (OImp.refl _) ?_
      intro n w ⟨hn, hw⟩
      refine CW.seq ?_
      refine CW.seq ?_
      refine CW.region ?_
      refine WP.s .n (O.mv rfl) ?_
      refine WP.s .n (O.gt rfl rfl) ?_
      refine WP.nil ?_
      refine QE.next ?_
      refine CW.condD rfl (fun h_t25 => ?_) (fun h_t25 => ?_)
      · refine CW.skip ?_
        refine QE.next ?_
        refine CW.seq ?_
        refine CW.block ?_
        refine CW.region ?_
        refine WP.s .n (O.mv rfl) ?_
        refine WP.s .n (O.add rfl rfl (c := ((n : Int) + 1)) (w64 (by omega))) ?_
        refine WP.s .n (O.asg rfl) ?_
        refine WP.nil ?_
        refine QE.blkN ?_
        refine QE.next ?_
        refine CW.region ?_
        refine WP.s .n (O.mv rfl) ?_
        refine WP.s .n (O.quo rfl rfl (by omega) (c := ((w / 2 : Nat) : Int)) (quoN32 2 rfl rfl hw)) ?_
        refine WP.s .n (O.asg rfl) ?_
        refine WP.nil ?_
        exact QE.round2 (n + 1) (w / 2) (by omega) ⟨by have := @bitlen_half w (by omega); omega, by omega⟩ (Imp.consLe rfl (is_eq (y := (((n + 1) : Nat) : Int)) (by omega)) (Imp.consLe rfl (is_eq (y := (((w / 2) : Nat) : Int)) (by omega)) Imp.nil)) (OImp.refl _)
      · refine CW.exit ?_
        refine QE.thenE ?_
        refine QE.thenE ?_
        refine QE.blkH ?_
        refine QE.next ?_
        refine CW.seq ?_
        refine CW.region ?_
        refine WP.s .n (O.mv rfl) ?_
        refine WP.s .n (O.asg rfl) ?_
        refine WP.nil ?_
        refine QE.next ?_
        refine CW.ret ?_
        refine QE.blkR ?_
        refine QE.thenR ?_
        refine QE.thenR ?_
        refine QE.blkR ?_
        refine QE.thenR ?_
        have hw0 : bitlen w = 0 := bitlen_0.2 (by omega)
        refine ST.told 2 rfl (is_eq (y := (bitlen (nval l) : Int)) (by have := rbits_end hL (i := i) (by omega) hd (by omega); omega)) ?_
        exact QE.done (.inl rfl) rfl (ResOk.t rfl ResOk.nil) (OImp.sub (List.nil_sublist _)) ⟨rfl, rfl⟩
    · refine CW.skip ?_
      refine QE.blkN ?_
      refine QE.next ?_
      refine CW.region ?_
      refine WP.s .n (O.mv rfl) ?_
      refine WP.s .n (O.sub rfl rfl (c := (((i : Int) - 1) - 1)) (w64 (by omega))) ?_
      refine WP.s .n (O.asg rfl) ?_
      refine WP.nil ?_
      exact QE.round (i - 1) (by omega) ⟨by omega, rbits_down (by omega) hd (by omega)⟩ (Imp.cons rfl (Imp.consLe rfl (is_eq (y := (((i - 1) : Nat) : Int) - 1) (by omega)) Imp.nil)) (OImp.refl _)
  · refine CW.exit ?_
    refine QE.thenE ?_
    refine QE.thenE ?_
    refine QE.blkH ?_
    refine QE.next ?_
    refine CW.seq ?_
    refine CW.region ?_
    refine WP.s .n (O.asg rfl) ?_
    refine WP.nil ?_
    refine QE.next ?_
    refine CW.ret ?_
    refine ST.told 2 rfl (is_eq (y := (bitlen (nval l) : Int)) (rbits_0 (i := i) (by omega) hd)) ?_
    exact QE.done (.inl rfl) rfl (ResOk.t rfl ResOk.nil) (OImp.sub (List.nil_sublist _)) ⟨rfl, rfl⟩

set_option maxRecDepth 20000 in
set_option maxHeartbeats 1000000 in
theorem c_ref01_Add (a b : List Nat) (hA : a.length < 1099511627776) (hB : b.length < 1099511627776) : Fn Try.prog 153 [kN.is a, kN.is b] (kN.is (limbs (nval a + nval b))) := by
  refine Con.enter Try.func153 rfl rfl fun m w => ?_
  refine ST.fact (i := 0) rfl kN_lims fun lA => ?_
  refine ST.fact (i := 1) rfl kN_lims fun lB => ?_
  refine CW.seq ?_
  refine CW.region ?_
  refine WP.s .n (O.asg rfl) ?_
  refine WP.nil ?_
  refine QE.next ?_
  refine CW.seq ?_
  refine CW.region ?_
  refine WP.s .n (O.asg rfl) ?_
  refine WP.nil ?_
  refine QE.next ?_
  refine CW.seq ?_
  refine CW.region ?_
  refine WP.s .n (O.asg rfl) ?_
  refine WP.nil ?_
  refine QE.next ?_
  refine CW.seq ?_
  refine CW.seq ?_
  refine CW.region ?_
  refine WP.s .n (O.asg rfl) ?_
  refine WP.nil ?_
  refine QE.next ?_
  refine CW.block ?_
  refine ST.nilrow 121 kLimb ?_
  refine CW.loop3 (fun (r : List Nat) (c : Nat) (v : Value) => r.length ≤ max a.length b.length ∧ AddR a b r c) (fun (r : List Nat) (c : Nat) (v : Value) => [(0, kN.is a), (1, kN.is b), (5, VP.ex v), (6, (kInt .u64).is (c : Int)), (7, (kInt .i64).is (r.length : Int))]) (fun (r : List Nat) (c : Nat) (v : Value) => [OB.row v 121 kLimb r]) (fun (r : List Nat) (c : Nat) (v : Value) => max a.length b.length - r.length) [] 0 (.slice none 0 0) ⟨Nat.zero_le _, addR_0 a b⟩ (Imp.cons rfl (Imp.cons rfl (Imp.cons rfl (Imp.consLe rfl (is_eq (y := (0 : Int)) (by first | omega | simp)) (Imp.consLe rfl (is_eq (y := ([].length : Int)) (by first | omega | simp)) Imp.nil))))) (OImp.refl _) ?_
  intro r c v ⟨hr, hS⟩
  have hc := hS.2.1
  have hx := getD_lt lA r.length
  have hy := getD_lt lB r.length
  refine CW.seq ?_
  refine CW.seq ?_
  refine CW.region ?_
  refine WP.s .n (O.mv rfl) ?_
  refine WP.s .n (O.mv rfl) ?_
  refine WP.s .n (O.lenS rfl Try.underlying29) ?_
  refine WP.s .n (O.mv rfl) ?_
  refine WP.s .n (O.lenS rfl Try.underlying29) ?_
  refine WP.s .n (O.fn fn199 (evs.c rfl (evs.c rfl evs.nil)) (c_ref01_most (a.length : Int) (b.length : Int))) ?_
  refine WP.s .n (O.lt rfl rfl) ?_
  refine WP.nil ?_
  refine QE.next ?_
  refine CW.condD rfl (fun h_t14 => ?_) (fun h_t14 => ?_)
  · refine CW.skip ?_
    refine QE.next ?_
    refine CW.seq ?_
    refine CW.block ?_
    refine CW.seq ?_
    refine CW.region ?_
    refine WP.s .n (O.mv rfl) ?_
    refine WP.s .n (O.mv rfl) ?_
    refine WP.s .n (O.mv rfl) ?_
    refine WP.s .n (O.fn fn200 (evs.c rfl (evs.l rfl (is_eq (y := ((r.length : Nat) : Int)) (by first | omega | simp)) evs.nil)) (c_ref01_limb a r.length)) ?_
    refine WP.s .n (O.add rfl rfl (c := ((c : Int) + (a.getD r.length 0 : Int))) (wu64 (by omega))) ?_
    refine WP.s .n (O.mv rfl) ?_
    refine WP.s .n (O.mv rfl) ?_
    refine WP.s .n (O.fn fn200 (evs.c rfl (evs.l rfl (is_eq (y := ((r.length : Nat) : Int)) (by first | omega | simp)) evs.nil)) (c_ref01_limb b r.length)) ?_
    refine WP.s .n (O.add rfl rfl (c := (((c : Int) + (a.getD r.length 0 : Int)) + (b.getD r.length 0 : Int))) (wu64 (by omega))) ?_
    refine WP.s .n (O.asg rfl) ?_
    refine WP.nil ?_
    refine QE.next ?_
    refine CW.seq ?_
    refine CW.region ?_
    refine WP.s .n (O.mv rfl) ?_
    refine WP.s .n (O.mv rfl) ?_
    refine WP.s .n (O.rem rfl rfl (by omega) (c := (((c + a.getD r.length 0 + b.getD r.length 0) % 4294967296 : Nat) : Int)) (tmodN 4294967296 (by omega) rfl)) ?_
    refine WP.s .n (O.cvt rfl Try.underlying173 Try.underlying121 (c := (((c + a.getD r.length 0 + b.getD r.length 0) % 4294967296 : Nat) : Int)) (wrs32 (by omega))) ?_
    refine WP.s .n (O.bs Try.underlying29 el121_limb (evl.l rfl (u32_limb (x := ((c + a.getD r.length 0 + b.getD r.length 0) % 4294967296 : Nat)) (by omega)) evl.n) rfl (by decide)) ?_
    refine WP.ap 0 .n rfl rfl rfl (VP.le_refl _) Try.underlying29 el121_limb (by simp; omega) fun v1 => ?_
    refine WP.s .n (O.asg rfl) ?_
    refine WP.nil ?_
    refine QE.next ?_
    refine CW.region ?_
    refine WP.s .n (O.mv rfl) ?_
    refine WP.s .n (O.quo rfl rfl (by omega) (c := (((c + a.getD r.length 0 + b.getD r.length 0) / 4294967296 : Nat) : Int)) (quoN 4294967296 (by omega) rfl (by omega))) ?_
    refine WP.s .n (O.asg rfl) ?_
    refine WP.nil ?_
    refine QE.blkN ?_
    refine QE.next ?_
    refine CW.region ?_
    refine WP.s .n (O.mv rfl) ?_
    refine WP.s .n (O.add rfl rfl (c := ((r.length : Int) + 1)) (w64 (by omega))) ?_
    refine WP.s .n (O.asg rfl) ?_
    refine WP.nil ?_
    exact QE.round3 (r ++ [(c + a.getD r.length 0 + b.getD r.length 0) % 4294967296]) ((c + a.getD r.length 0 + b.getD r.length 0) / 4294967296) v1 (by simp; omega) ⟨by simp; omega, addR_s lA lB hS⟩ (Imp.cons rfl (Imp.cons rfl (Imp.cons rfl (Imp.consLe rfl (is_eq (y := ((((c + a.getD r.length 0 + b.getD r.length 0) / 4294967296) : Nat) : Int)) (by first | omega | simp)) (Imp.consLe rfl (is_eq (y := ((r ++ [(c + a.getD r.length 0 + b.getD r.length 0) % 4294967296]).length : Int)) (by first | omega | simp)) Imp.nil))))) (OImp.os (OS.keepLe (OB.row_eq (by first | omega | simp)) OS.nil))
  · refine CW.exit ?_
    refine QE.thenE ?_
    refine QE.thenE ?_
    refine QE.blkH ?_
    refine QE.next ?_
    refine CW.seq ?_
    refine CW.region ?_
    refine WP.s .n (O.mv rfl) ?_
    refine WP.s .n (O.mv rfl) ?_
    refine WP.s .n (O.cvt rfl Try.underlying173 Try.underlying121 (c := (c : Int)) (wrs32 (by omega))) ?_
    refine WP.s .n (O.bs Try.underlying29 el121_limb (evl.l rfl (u32_limb (x := c) (by omega)) evl.n) rfl (by decide)) ?_
    refine WP.ap 0 .n rfl rfl rfl (VP.le_refl _) Try.underlying29 el121_limb (by simp; omega) fun v2 => ?_
    refine WP.s .n (O.asg rfl) ?_
    refine WP.nil ?_
    refine QE.next ?_
    refine CW.seq ?_
    refine CW.region ?_
    refine WP.s .n (O.mv rfl) ?_
    refine ST.freeze 0 rfl (.keep (i := 0) rfl (.keep (i := 1) rfl (.hit (i := 5) rfl (.keep (i := 6) rfl (.keep (i := 7) rfl (.keep (i := 8) rfl (.keep (i := 9) rfl (.keep (i := 10) rfl (.keep (i := 11) rfl (.keep (i := 12) rfl (.keep (i := 13) rfl (.keep (i := 14) rfl (.keep (i := 34) rfl (.keep (i := 35) rfl (.keep (i := 36) rfl (.keep (i := 37) rfl (.hit (i := 38) rfl (.hit (i := 39) rfl .nil)))))))))))))))))) ?_
    refine WP.s .n (O.fn fn158 (evs.c rfl evs.nil) (c_ref01_Norm (r ++ [c]))) ?_
    refine WP.s .n (O.asg rfl) ?_
    refine WP.nil ?_
    refine QE.next ?_
    refine CW.ret ?_
    refine ST.told 4 rfl (is_eq (y := (limbs (nval a + nval b))) (by rw [nval_concat, hS.2.2, List.take_of_length_le (by omega), List.take_of_length_le (by omega)])) ?_
    exact QE.done (.inl rfl) rfl (ResOk.t rfl ResOk.nil) (OImp.sub (List.nil_sublist _)) ⟨rfl, rfl⟩

set_option maxRecDepth 20000 in
set_option maxHeartbeats 1000000 in
theorem c_ref01_less (x y : List Nat) (hle : nval y ≤ nval x) : Fn Try.prog 201 [kN.is x, kN.is y] (kN.is (limbs (nval x - nval y))) := by
  refine Con.enter Try.func201 rfl rfl fun m w => ?_
  refine ST.fact (i := 0) rfl kN_lims fun l1 => ?_
  refine ST.fact (i := 1) rfl kN_lims fun l2 => ?_
  refine ST.fact (i := 0) rfl sl_len fun hB => ?_
  refine CW.seq ?_
  refine CW.region ?_
  refine WP.s .n (O.asg rfl) ?_
  refine WP.nil ?_
  refine QE.next ?_
  refine CW.seq ?_
  refine CW.region ?_
  refine WP.s .n (O.asg rfl) ?_
  refine WP.nil ?_
  refine QE.next ?_
  refine CW.seq ?_
  refine CW.region ?_
  refine WP.s .n (O.asg rfl) ?_
  refine WP.nil ?_
  refine QE.next ?_
  refine CW.seq ?_
  refine CW.seq ?_
  refine CW.region ?_
  refine WP.s .n (O.asg rfl) ?_
  refine WP.nil ?_
  refine QE.next ?_
  refine CW.block ?_
  refine ST.nilrow 121 kLimb ?_
  refine CW.loop3 (fun (r : List Nat) (c : Nat) (v : Value) => r.length ≤ x.length ∧ LessR x y r c) (fun (r : List Nat) (c : Nat) (v : Value) => [(0, kN.is x), (1, kN.is y), (5, VP.ex v), (6, (kInt .u64).is (c : Int)), (7, (kInt .i64).is (r.length : Int))]) (fun (r : List Nat) (c : Nat) (v : Value) => [OB.row v 121 kLimb r]) (fun (r : List Nat) (c : Nat) (v : Value) => x.length - r.length) [] 0 (.slice none 0 0) ⟨Nat.zero_le _, lessR_0 x y⟩ (Imp.cons rfl (Imp.cons rfl (Imp.cons rfl (Imp.consLe rfl (is_eq (y := (0 : Int)) (by first | omega | simp)) (Imp.consLe rfl (is_eq (y := ([].length : Int)) (by first | omega | simp)) Imp.nil))))) (OImp.refl _) ?_
  intro r c v ⟨hr, hS⟩
  have hc := hS.2.1
  have hx := getD_lt l1 r.length
  have hy := getD_lt l2 r.length
  refine CW.seq ?_
  refine CW.seq ?_
  refine CW.region ?_
  refine WP.s .n (O.mv rfl) ?_
  refine WP.s .n (O.mv rfl) ?_
  refine WP.s .n (O.lenS rfl Try.underlying29) ?_
  refine WP.s .n (O.lt rfl rfl) ?_
  refine WP.nil ?_
  refine QE.next ?_
  refine CW.condD rfl (fun h_t13 => ?_) (fun h_t13 => ?_)
  · refine CW.skip ?_
    refine QE.next ?_
    refine CW.seq ?_
    refine CW.block ?_
    refine CW.seq ?_
    refine CW.region ?_
    refine WP.s .n (O.mv rfl) ?_
    refine WP.s .n (O.mv rfl) ?_
    refine WP.s .n (O.fn fn200 (evs.c rfl (evs.l rfl (is_eq (y := ((r.length : Nat) : Int)) (by first | omega | simp)) evs.nil)) (c_ref01_limb x r.length)) ?_
    refine WP.s .n (O.asg rfl) ?_
    refine WP.nil ?_
    refine QE.next ?_
    refine CW.seq ?_
    refine CW.region ?_
    refine WP.s .n (O.mv rfl) ?_
    refine WP.s .n (O.mv rfl) ?_
    refine WP.s .n (O.fn fn200 (evs.c rfl (evs.l rfl (is_eq (y := ((r.length : Nat) : Int)) (by first | omega | simp)) evs.nil)) (c_ref01_limb y r.length)) ?_
    refine WP.s .n (O.mv rfl) ?_
    refine WP.s .n (O.add rfl rfl (c := ((y.getD r.length 0 : Int) + (c : Int))) (wu64 (by omega))) ?_
    refine WP.s .n (O.asg rfl) ?_
    refine WP.nil ?_
    refine QE.next ?_
    refine CW.seq ?_
    refine CW.region ?_
    refine WP.s .n (O.asg rfl) ?_
    refine WP.nil ?_
    refine QE.next ?_
    refine CW.seq ?_
    refine CW.seq ?_
    refine CW.region ?_
    refine WP.s .n (O.mv rfl) ?_
    refine WP.s .n (O.mv rfl) ?_
    refine WP.s .n (O.lt rfl rfl) ?_
    refine WP.nil ?_
    refine QE.next ?_
    refine CW.condD rfl (fun h_t26 => ?_) (fun h_t26 => ?_)
    · refine CW.seq ?_
      refine CW.region ?_
      refine WP.s .n (O.mv rfl) ?_
      refine WP.s .n (O.add rfl rfl (c := ((x.getD r.length 0 : Int) + 4294967296)) (wu64 (by omega))) ?_
      refine WP.s .n (O.asg rfl) ?_
      refine WP.nil ?_
      refine QE.next ?_
      refine CW.region ?_
      refine WP.s .n (O.asg rfl) ?_
      refine WP.nil ?_
      refine QE.next ?_
      refine CW.region ?_
      refine WP.s .n (O.mv rfl) ?_
      refine WP.s .n (O.mv rfl) ?_
      refine WP.s .n (O.mv rfl) ?_
      refine WP.s .n (O.sub rfl rfl (c := (((x.getD r.length 0 : Int) + 4294967296) - ((y.getD r.length 0 : Int) + (c : Int)))) (wu64 (by omega))) ?_
      refine WP.s .n (O.cvt rfl Try.underlying173 Try.underlying121 (c := ((x.getD r.length 0 + 4294967296 - (c + y.getD r.length 0) : Nat) : Int)) (wrs32 (by omega))) ?_
      refine WP.s .n (O.bs Try.underlying29 el121_limb (evl.l rfl (u32_limb (x := (x.getD r.length 0 + 4294967296 - (c + y.getD r.length 0) : Nat)) (by omega)) evl.n) rfl (by decide)) ?_
      refine WP.ap 0 .n rfl rfl rfl (VP.le_refl _) Try.underlying29 el121_limb (by simp; omega) fun v1 => ?_
      refine WP.s .n (O.asg rfl) ?_
      refine WP.nil ?_
      refine QE.blkN ?_
      refine QE.next ?_
      refine CW.region ?_
      refine WP.s .n (O.mv rfl) ?_
      refine WP.s .n (O.add rfl rfl (c := ((r.length : Int) + 1)) (w64 (by omega))) ?_
      refine WP.s .n (O.asg rfl) ?_
      refine WP.nil ?_
      exact QE.round3 (r ++ [x.getD r.length 0 + 4294967296 - (c + y.getD r.length 0)]) 1 v1 (by simp; omega) ⟨by simp; omega, lessR_g hS (by omega) (by omega) (by omega)⟩ (Imp.cons rfl (Imp.cons rfl (Imp.cons rfl (Imp.consLe rfl (is_eq (y := (1 : Int)) (by first | omega | simp)) (Imp.consLe rfl (is_eq (y := ((r ++ [x.getD r.length 0 + 4294967296 - (c + y.getD r.length 0)]).length : Int)) (by first | omega | simp)) Imp.nil))))) (OImp.os (OS.keepLe (OB.row_eq (by first | omega | simp)) OS.nil))
    · refine CW.skip ?_
      refine QE.next ?_
      refine CW.region ?_
      refine WP.s .n (O.mv rfl) ?_
      refine WP.s .n (O.mv rfl) ?_
      refine WP.s .n (O.mv rfl) ?_
      refine WP.s .n (O.sub rfl rfl (c := ((x.getD r.length 0 : Int) - ((y.getD r.length 0 : Int) + (c : Int)))) (wu64 (by omega))) ?_
      refine WP.s .n (O.cvt rfl Try.underlying173 Try.underlying121 (c := ((x.getD r.length 0 - (c + y.getD r.length 0) : Nat) : Int)) (wrs32 (by omega))) ?_
      refine WP.s .n (O.bs Try.underlying29 el121_limb (evl.l rfl (u32_limb (x := (x.getD r.length 0 - (c + y.getD r.length 0) : Nat)) (by omega)) evl.n) rfl (by decide)) ?_
      refine WP.ap 0 .n rfl rfl rfl (VP.le_refl _) Try.underlying29 el121_limb (by simp; omega) fun v2 => ?_
      refine WP.s .n (O.asg rfl) ?_
      refine WP.nil ?_
      refine QE.blkN ?_
      refine QE.next ?_
      refine CW.region ?_
      refine WP.s .n (O.mv rfl) ?_
      refine WP.s .n (O.add rfl rfl (c := ((r.length : Int) + 1)) (w64 (by omega))) ?_
      refine WP.s .n (O.asg rfl) ?_
      refine WP.nil ?_
      exact QE.round3 (r ++ [x.getD r.length 0 - (c + y.getD r.length 0)]) 0 v2 (by simp; omega) ⟨by simp; omega, lessR_g hS (by omega) (by omega) (by omega)⟩ (Imp.cons rfl (Imp.cons rfl (Imp.cons rfl (Imp.consLe rfl (is_eq (y := (0 : Int)) (by first | omega | simp)) (Imp.consLe rfl (is_eq (y := ((r ++ [x.getD r.length 0 - (c + y.getD r.length 0)]).length : Int)) (by first | omega | simp)) Imp.nil))))) (OImp.os (OS.keepLe (OB.row_eq (by first | omega | simp)) OS.nil))
  · refine CW.exit ?_
    refine QE.thenE ?_
    refine QE.thenE ?_
    refine QE.blkH ?_
    refine QE.next ?_
    refine CW.seq ?_
    refine CW.region ?_
    refine WP.s .n (O.mv rfl) ?_
    refine ST.freeze 0 rfl (.keep (i := 0) rfl (.keep (i := 1) rfl (.hit (i := 5) rfl (.keep (i := 6) rfl (.keep (i := 7) rfl (.keep (i := 10) rfl (.keep (i := 11) rfl (.keep (i := 12) rfl (.keep (i := 13) rfl (.hit (i := 36) rfl .nil)))))))))) ?_
    refine WP.s .n (O.fn fn158 (evs.c rfl evs.nil) (c_ref01_Norm r)) ?_
    refine WP.s .n (O.asg rfl) ?_
    refine WP.nil ?_
    refine QE.next ?_
    refine CW.ret ?_
    have hrx : r.length = x.length := by omega
    refine ST.told 4 rfl (is_eq (y := (limbs (nval x - nval y))) (by rw [lessR_end' hS hrx l1 l2 hle])) ?_
    exact QE.done (.inl rfl) rfl (ResOk.t rfl ResOk.nil) (OImp.sub (List.nil_sublist _)) ⟨rfl, rfl⟩

set_option maxRecDepth 20000 in
set_option maxHeartbeats 1000000 in
theorem c_ref01_Sub (a b : List Nat) : Fn Try.prog 155 [kN.is a, kN.is b] (VP.tup [kN.is (if nval a < nval b then [] else limbs (nval a - nval b)), (kInt .i64).is (if nval a < nval b then 10 else 0)]) := by
  refine Con.enter Try.func155 rfl rfl fun m w => ?_
  refine CW.seq ?_
  refine CW.region ?_
  refine WP.s .n (O.asg rfl) ?_
  refine WP.s .n (O.asg rfl) ?_
  refine WP.nil ?_
  refine QE.next ?_
  refine CW.seq ?_
  refine CW.seq ?_
  refine CW.region ?_
  refine WP.s .n (O.mv rfl) ?_
  refine WP.s .n (O.mv rfl) ?_
  refine WP.s .n (O.fn fn154 (evs.c rfl (evs.c rfl evs.nil)) (c_ref01_Cmp a b)) ?_
  refine WP.s .n (O.lt rfl rfl) ?_
  refine WP.nil ?_
  refine QE.next ?_
  refine CW.condD rfl (fun h_t9 => ?_) (fun h_t9 => ?_)
  · refine CW.seq ?_
    refine CW.region ?_
    refine WP.s .n (O.asg rfl) ?_
    refine WP.s .n (O.asg rfl) ?_
    refine WP.nil ?_
    refine QE.next ?_
    refine CW.ret ?_
    refine QE.thenR ?_
    refine ST.told (q := kN.is ([] : List Nat)) 4 rfl (nil_le _) ?_
    refine ST.told 4 rfl (is_eq (y := (if nval a < nval b then [] else limbs (nval a - nval b))) (by rw [if_pos (cmpI_lt h_t9)])) ?_
    refine ST.told 5 rfl (is_eq (y := (if nval a < nval b then 10 else 0)) (by rw [if_pos (cmpI_lt h_t9)])) ?_
    exact QE.done (.inl rfl) rfl (ResOk.t rfl (ResOk.t rfl ResOk.nil)) (OImp.sub (List.nil_sublist _)) ⟨rfl, rfl⟩
  · refine CW.skip ?_
    refine QE.next ?_
    refine CW.seq ?_
    refine CW.region ?_
    refine WP.s .n (O.mv rfl) ?_
    refine WP.s .n (O.mv rfl) ?_
    refine WP.s .n (O.fn fn201 (evs.c rfl (evs.c rfl evs.nil)) (c_ref01_less a b (cmpI_ge h_t9))) ?_
    refine WP.s .n (O.asg rfl) ?_
    refine WP.s .n (O.asg rfl) ?_
    refine WP.nil ?_
    refine QE.next ?_
    refine CW.ret ?_
    refine ST.told 4 rfl (is_eq (y := (if nval a < nval b then [] else limbs (nval a - nval b))) (by rw [if_neg (Nat.not_lt.2 (cmpI_ge h_t9))])) ?_
    refine ST.told 5 rfl (is_eq (y := (if nval a < nval b then 10 else 0)) (by rw [if_neg (Nat.not_lt.2 (cmpI_ge h_t9))])) ?_
    exact QE.done (.inl rfl) rfl (ResOk.t rfl (ResOk.t rfl ResOk.nil)) (OImp.sub (List.nil_sublist _)) ⟨rfl, rfl⟩

set_option maxRecDepth 20000 in
set_option maxHeartbeats 1000000 in
theorem c_ref02_made (b : Bool) (l : List Nat) : Fn Try.prog 152 [kBool.is b, kN.is l] (kC.is (ival (b, l))) := by
  refine Con.enter Try.func152 rfl rfl fun m w => ?_
  refine CW.seq ?_
  refine CW.region ?_
  refine WP.al .n z31_C fun b1 => ?_
  refine WP.nil ?_
  refine QE.next ?_
  refine CW.seq ?_
  refine CW.region ?_
  refine WP.s .n (O.mv rfl) ?_
  refine WP.s .n (O.fn fn158 (evs.c rfl evs.nil) (c_ref01_Norm l)) ?_
  refine WP.s .n (O.asg rfl) ?_
  refine WP.nil ?_
  refine QE.next ?_
  refine CW.seq ?_
  refine CW.region ?_
  refine WP.s .n (O.mv rfl) ?_
  refine WP.s .n (O.mv rfl) ?_
  refine WP.split 9 rfl (fun h_t9 => ?_) (fun h_t9 => ?_)
  · refine WP.s (.g rfl rfl) (O.mv rfl) ?_
    refine WP.s (.g rfl rfl) (O.lenS rfl Try.underlying29) ?_
    refine WP.s (.g rfl rfl) (O.gt rfl rfl) ?_
    refine WP.s .n (O.pickT rfl rfl) ?_
    refine WP.s .n (O.mv rfl) ?_
    refine WP.s .n (O.bld lit31_I rfl (evp.c rfl (evp.c rfl evp.n)) (.cons rfl (Lens.fst (Lens.id _)) (.cons rfl (Lens.snd (Lens.id _)) (.nil _)))) ?_
    refine WP.t .n (O.stW (l := kI) (u := (decide (0 < ((limbs (nval l)).length : Int)), limbs (nval l))) 0 rfl rfl rfl ty31 rfl (VP.le_refl _)) ?_
    refine WP.nil ?_
    refine QE.next ?_
    refine CW.ret ?_
    refine ST.obtold (b' := OB.box b1 31 kC (ival (b, l))) 0 rfl (OB.I_C (by have := @canon_of' b l; simp_all)) ?_
    exact QE.done (.inl rfl) rfl (ResOk.c rfl (mem_at 0 rfl) ty31 ResOk.nil) (OImp.sub (List.nil_sublist _)) ⟨rfl, rfl⟩
  · refine WP.k (b := false) rfl rfl ?_
    refine WP.k (b := false) rfl rfl ?_
    refine WP.k (b := false) rfl rfl ?_
    refine WP.s .n (O.pickF rfl rfl) ?_
    refine WP.s .n (O.mv rfl) ?_
    refine WP.s .n (O.bld lit31_I rfl (evp.c rfl (evp.c rfl evp.n)) (.cons rfl (Lens.fst (Lens.id _)) (.cons rfl (Lens.snd (Lens.id _)) (.nil _)))) ?_
    refine WP.t .n (O.stW (l := kI) (u := (false, limbs (nval l))) 0 rfl rfl rfl ty31 rfl (VP.le_refl _)) ?_
    refine WP.nil ?_
    refine QE.next ?_
    refine CW.ret ?_
    refine ST.obtold (b' := OB.box b1 31 kC (ival (b, l))) 0 rfl (OB.I_C (by have := @canon_of' b l; simp_all)) ?_
    exact QE.done (.inl rfl) rfl (ResOk.c rfl (mem_at 0 rfl) ty31 ResOk.nil) (OImp.sub (List.nil_sublist _)) ⟨rfl, rfl⟩

set_option maxRecDepth 20000 in
set_option maxHeartbeats 1000000 in
theorem c_ref02_Of (n : Int) : Fn Try.prog 78 [kI64.is n] (kC.is n) := by
  refine Con.enter Try.func78 rfl rfl fun m w => ?_
  refine ST.fact (i := 0) rfl int_rng fun hn => ?_
  refine ST.told (q := (kInt .i64).is n) 0 rfl (i64_le _) ?_
  refine CW.seq ?_
  refine CW.region ?_
  refine WP.al .n z31_C fun b1 => ?_
  refine WP.nil ?_
  refine QE.next ?_
  refine CW.seq ?_
  refine CW.region ?_
  refine WP.s .n (O.mv rfl) ?_
  refine WP.s .n (O.cvt rfl Try.underlying2 Try.underlying173 rfl) ?_
  refine WP.s .n (O.asg rfl) ?_
  refine WP.nil ?_
  refine QE.next ?_
  refine CW.seq ?_
  refine CW.seq ?_
  refine CW.region ?_
  refine WP.s .n (O.mv rfl) ?_
  refine WP.s .n (O.lt rfl rfl) ?_
  refine WP.nil ?_
  refine QE.next ?_
  refine CW.condD rfl (fun h_t7 => ?_) (fun h_t7 => ?_)
  · refine CW.region ?_
    refine WP.s .n (O.mv rfl) ?_
    refine WP.s .n (O.neg rfl (c := ((n.natAbs : Nat) : Int)) (of_neg h_t7 hn.1)) ?_
    refine WP.s .n (O.asg rfl) ?_
    refine WP.nil ?_
    refine QE.next ?_
    refine CW.seq ?_
    refine CW.region ?_
    refine WP.s .n (O.mv rfl) ?_
    refine WP.s .n (O.lt rfl rfl) ?_
    refine WP.s .n (O.mv rfl) ?_
    refine WP.s .n (O.cvt rfl Try.underlying173 Try.underlying121 (c := ((n.natAbs % 4294967296 : Nat) : Int)) (wr32 rfl)) ?_
    refine WP.s .n (O.mv rfl) ?_
    refine WP.s .n (O.shr rfl rfl (by omega) (c := ((n.natAbs / 2 ^ 32 : Nat) : Int)) (shrN 32 rfl rfl (by decide))) ?_
    refine WP.s .n (O.cvt rfl Try.underlying173 Try.underlying121 (c := ((n.natAbs / 2 ^ 32 : Nat) : Int)) (wrs32 (by omega))) ?_
    refine WP.s .n (O.bs Try.underlying29 el121_limb (evl.l rfl (u32_limb (x := (n.natAbs % 4294967296 : Nat)) (by omega)) (evl.l rfl (u32_limb (x := (n.natAbs / 2 ^ 32 : Nat)) (by omega)) evl.n)) rfl (by decide)) ?_
    refine WP.s .n (O.fn fn152 (evs.c rfl (evs.c rfl evs.nil)) (c_ref02_made (decide (n < 0)) [(n.natAbs % 4294967296 : Nat), (n.natAbs / 2 ^ 32 : Nat)])) ?_
    refine WP.t .n (O.stW (l := kC) (u := ival ((decide (n < 0)), [(n.natAbs % 4294967296 : Nat), (n.natAbs / 2 ^ 32 : Nat)])) 0 rfl rfl rfl ty31 rfl (VP.le_refl _)) ?_
    refine WP.nil ?_
    refine QE.next ?_
    refine CW.ret ?_
    refine ST.obtold 0 rfl (OB.box_eq (y := n) of_val) ?_
    exact QE.done (.inl rfl) rfl (ResOk.c rfl (mem_at 0 rfl) ty31 ResOk.nil) (OImp.sub (List.nil_sublist _)) ⟨rfl, rfl⟩
  · refine ST.told 3 rfl (is_eq (y := ((n.natAbs : Nat) : Int)) (of_pos h_t7 hn.2)) ?_
    refine CW.skip ?_
    refine QE.next ?_
    refine CW.seq ?_
    refine CW.region ?_
    refine WP.s .n (O.mv rfl) ?_
    refine WP.s .n (O.lt rfl rfl) ?_
    refine WP.s .n (O.mv rfl) ?_
    refine WP.s .n (O.cvt rfl Try.underlying173 Try.underlying121 (c := ((n.natAbs % 4294967296 : Nat) : Int)) (wr32 rfl)) ?_
    refine WP.s .n (O.mv rfl) ?_
    refine WP.s .n (O.shr rfl rfl (by omega) (c := ((n.natAbs / 2 ^ 32 : Nat) : Int)) (shrN 32 rfl rfl (by decide))) ?_
    refine WP.s .n (O.cvt rfl Try.underlying173 Try.underlying121 (c := ((n.natAbs / 2 ^ 32 : Nat) : Int)) (wrs32 (by omega))) ?_
    refine WP.s .n (O.bs Try.underlying29 el121_limb (evl.l rfl (u32_limb (x := (n.natAbs % 4294967296 : Nat)) (by omega)) (evl.l rfl (u32_limb (x := (n.natAbs / 2 ^ 32 : Nat)) (by omega)) evl.n)) rfl (by decide)) ?_
    refine WP.s .n (O.fn fn152 (evs.c rfl (evs.c rfl evs.nil)) (c_ref02_made (decide (n < 0)) [(n.natAbs % 4294967296 : Nat), (n.natAbs / 2 ^ 32 : Nat)])) ?_
    refine WP.t .n (O.stW (l := kC) (u := ival ((decide (n < 0)), [(n.natAbs % 4294967296 : Nat), (n.natAbs / 2 ^ 32 : Nat)])) 0 rfl rfl rfl ty31 rfl (VP.le_refl _)) ?_
    refine WP.nil ?_
    refine QE.next ?_
    refine CW.ret ?_
    refine ST.obtold 0 rfl (OB.box_eq (y := n) of_val) ?_
    exact QE.done (.inl rfl) rfl (ResOk.c rfl (mem_at 0 rfl) ty31 ResOk.nil) (OImp.sub (List.nil_sublist _)) ⟨rfl, rfl⟩

set_option maxRecDepth 20000 in
set_option maxHeartbeats 1000000 in
theorem c_ref02_Sign (z : Int) : Fn Try.prog 83 [kZ.is z] ((kInt .i64).is z.sign) := by
  refine Con.enter Try.func83 rfl rfl fun m w => ?_
  refine ST.z 0 rfl fun y y_v y_n y_l => ?_
  refine CW.seq ?_
  refine CW.region ?_
  refine WP.bx .n rfl fun b1 => ?_
  refine WP.s .n (O.asg rfl) ?_
  refine WP.nil ?_
  refine QE.next ?_
  refine CW.seq ?_
  refine CW.region ?_
  refine WP.s .n (O.fa rfl fld31_1 rfl) ?_
  refine WP.s .n (O.ld rfl (mem_at 0 rfl) (Lens.snd (Lens.id _)) ty29 rfl) ?_
  refine WP.s .n (O.fn fn158 (evs.c rfl evs.nil) (c_ref01_Norm y.2)) ?_
  refine WP.s .n (O.asg rfl) ?_
  refine WP.nil ?_
  refine QE.next ?_
  refine CW.seq ?_
  refine CW.block ?_
  refine CW.seq ?_
  refine CW.region ?_
  refine WP.s .n (O.mv rfl) ?_
  refine WP.s .n (O.lenS rfl Try.underlying29) ?_
  refine WP.s .n (O.eq rfl rfl) ?_
  refine WP.s .n (O.asg rfl) ?_
  refine WP.nil ?_
  refine QE.next ?_
  refine CW.condD rfl (fun h_t7 => ?_) (fun h_t7 => ?_)
  · refine CW.seq ?_
    refine CW.region ?_
    refine WP.s .n (O.asg rfl) ?_
    refine WP.nil ?_
    refine QE.next ?_
    refine CW.ret ?_
    refine QE.blkR ?_
    refine QE.thenR ?_
    refine ST.told 2 rfl (is_eq (y := z.sign) (by rw [← y_v, ival0 (limbs0 (by omega))]; rfl)) ?_
    exact QE.done (.inl rfl) rfl (ResOk.t rfl ResOk.nil) (OImp.sub (List.nil_sublist _)) ⟨rfl, rfl⟩
  · refine CW.seq ?_
    refine CW.region ?_
    refine WP.s .n (O.fa rfl fld31_0 rfl) ?_
    refine WP.s .n (O.ld rfl (mem_at 0 rfl) (Lens.fst (Lens.id _)) ty4 rfl) ?_
    refine WP.s .n (O.asg rfl) ?_
    refine WP.nil ?_
    refine QE.next ?_
    refine CW.cond rfl (fun h_t11 => ?_) (fun h_t11 => ?_)
    · refine CW.seq ?_
      refine CW.region ?_
      refine WP.s .n (O.asg rfl) ?_
      refine WP.nil ?_
      refine QE.next ?_
      refine CW.ret ?_
      refine QE.blkR ?_
      refine QE.thenR ?_
      refine ST.told 2 rfl (is_eq (y := z.sign) (by rw [← y_v]; exact rsign_neg (by omega) h_t11)) ?_
      exact QE.done (.inl rfl) rfl (ResOk.t rfl ResOk.nil) (OImp.sub (List.nil_sublist _)) ⟨rfl, rfl⟩
    · refine CW.skip ?_
      refine QE.blkN ?_
      refine QE.next ?_
      refine CW.seq ?_
      refine CW.region ?_
      refine WP.s .n (O.asg rfl) ?_
      refine WP.nil ?_
      refine QE.next ?_
      refine CW.ret ?_
      refine ST.told 2 rfl (is_eq (y := z.sign) (by rw [← y_v]; exact rsign_pos (by omega) h_t11)) ?_
      exact QE.done (.inl rfl) rfl (ResOk.t rfl ResOk.nil) (OImp.sub (List.nil_sublist _)) ⟨rfl, rfl⟩

set_option maxRecDepth 20000 in
set_option maxHeartbeats 1000000 in
theorem c_ref02_Bits (z : Int) : Fn Try.prog 95 [kZ.is z] ((kInt .i64).is (bitlen z.natAbs : Int)) := by
  refine Con.enter Try.func95 rfl rfl fun m w => ?_
  refine ST.z 0 rfl fun y y_v y_n y_l => ?_
  refine CW.seq ?_
  refine CW.region ?_
  refine WP.bx .n rfl fun b1 => ?_
  refine WP.s .n (O.asg rfl) ?_
  refine WP.nil ?_
  refine QE.next ?_
  refine CW.seq ?_
  refine CW.region ?_
  refine WP.s .n (O.fa rfl fld31_1 rfl) ?_
  refine WP.s .n (O.ld rfl (mem_at 0 rfl) (Lens.snd (Lens.id _)) ty29 rfl) ?_
  refine WP.s .n (O.fn fn164 (evs.c rfl evs.nil) (c_ref01_Bits y.2)) ?_
  refine WP.s .n (O.asg rfl) ?_
  refine WP.nil ?_
  refine QE.next ?_
  refine CW.ret ?_
  refine ST.told 2 rfl (is_eq (y := (bitlen z.natAbs : Int)) (by rw [← y_v, ival_abs])) ?_
  exact QE.done (.inl rfl) rfl (ResOk.t rfl ResOk.nil) (OImp.sub (List.nil_sublist _)) ⟨rfl, rfl⟩

set_option maxRecDepth 20000 in
set_option maxHeartbeats 1000000 in
theorem c_ref02_Add (x y : Int) : Fn Try.prog 79 [kZ.is x, kZ.is y] (kC.is (x + y)) := by
  refine Con.enter Try.func79 rfl rfl fun m w => ?_
  refine ST.z 0 rfl fun p p_v p_n p_l => ?_
  refine ST.z 1 rfl fun q q_v q_n q_l => ?_
  refine CW.seq ?_
  refine CW.region ?_
  refine WP.bx .n rfl fun b1 => ?_
  refine WP.bx .n rfl fun b2 => ?_
  refine WP.al .n z31_C fun b3 => ?_
  refine WP.nil ?_
  refine QE.next ?_
  refine CW.seq ?_
  refine CW.seq ?_
  refine CW.region ?_
  refine WP.s .n (O.fa rfl fld31_0 rfl) ?_
  refine WP.s .n (O.ld rfl (mem_at 2 rfl) (Lens.fst (Lens.id _)) ty4 rfl) ?_
  refine WP.s .n (O.fa rfl fld31_0 rfl) ?_
  refine WP.s .n (O.ld rfl (mem_at 1 rfl) (Lens.fst (Lens.id _)) ty4 rfl) ?_
  refine WP.s .n (O.eqB rfl rfl Try.underlying4) ?_
  refine WP.nil ?_
  refine QE.next ?_
  refine CW.condD rfl (fun h_t13 => ?_) (fun h_t13 => ?_)
  · refine CW.seq ?_
    refine CW.draw (Γ := [.fr (VP.ex (.pointer (some ⟨b1, 0, none⟩))), .fr (kBool.is p.1), .fr (VP.ex (.pointer (some ⟨b1, 1, none⟩))), .fr (kN.is p.2), .fr (VP.ex (.pointer (some ⟨b2, 1, none⟩))), .fr (kN.is q.2), .fr (kN.is (limbs (nval p.2 + nval q.2))), .fr (kC.is (ival (p.1, (limbs (nval p.2 + nval q.2)))))]) (lates := [false, false, false, false, false, false, false, false]) (by kernel_rfl) (Chk.of rfl (by kernel_rfl) rfl) (fun _ _ _ _ _ h => h) (fun q_ x_ h_ => ?_) (fun σ => ?_)
    · match q_, h_ with
      | 0, h_ => cases h_; exact Ob.f rfl .n fun N => (O.fa rfl fld31_0 rfl)
      | 1, h_ => cases h_; exact Ob.f rfl .n fun N => (O.ld rfl (mem_app N (mem_at 2 rfl)) (Lens.fst (Lens.id _)) ty4 rfl)
      | 2, h_ => cases h_; exact Ob.f rfl .n fun N => (O.fa rfl fld31_1 rfl)
      | 3, h_ => cases h_; exact Ob.f rfl .n fun N => (O.ld rfl (mem_app N (mem_at 2 rfl)) (Lens.snd (Lens.id _)) ty29 rfl)
      | 4, h_ => cases h_; exact Ob.f rfl .n fun N => (O.fa rfl fld31_1 rfl)
      | 5, h_ => cases h_; exact Ob.f rfl .n fun N => (O.ld rfl (mem_app N (mem_at 1 rfl)) (Lens.snd (Lens.id _)) ty29 rfl)
      | 6, h_ => cases h_; exact Ob.f rfl .n fun N => (O.fn fn153 (evs.c rfl (evs.c rfl evs.nil)) (c_ref01_Add p.2 q.2 (by omega) (by omega)))
      | 7, h_ => cases h_; exact Ob.f rfl .n fun N => (O.fn fn152 (evs.c rfl (evs.c rfl evs.nil)) (c_ref02_made p.1 (limbs (nval p.2 + nval q.2))))
      | n_ + 8, h_ => simp at h_
    refine WP.t .n (O.stW (l := kC) (u := ival (p.1, (limbs (nval p.2 + nval q.2)))) 0 rfl rfl rfl ty31 rfl (VP.le_refl _)) ?_
    refine WP.nil ?_
    refine QE.next ?_
    refine CW.ret ?_
    refine QE.thenR ?_
    exact QE.done (.inl rfl) rfl (ResOk.cl rfl (mem_at 0 rfl) ty31 (is_eq (y := x + y) (by first | omega | assumption | (rw [← p_v, ← q_v]; first | exact add_same h_t13 | exact radd_ge h_t13 h_t27 | exact radd_lt h_t13 h_t27))) ResOk.nil) (OImp.sub (List.nil_sublist _)) ⟨rfl, rfl⟩
  · refine CW.skip ?_
    refine QE.next ?_
    refine CW.seq ?_
    refine CW.seq ?_
    refine CW.region ?_
    refine WP.s .n (O.fa rfl fld31_1 rfl) ?_
    refine WP.s .n (O.ld rfl (mem_at 2 rfl) (Lens.snd (Lens.id _)) ty29 rfl) ?_
    refine WP.s .n (O.fa rfl fld31_1 rfl) ?_
    refine WP.s .n (O.ld rfl (mem_at 1 rfl) (Lens.snd (Lens.id _)) ty29 rfl) ?_
    refine WP.s .n (O.fn fn154 (evs.c rfl (evs.c rfl evs.nil)) (c_ref01_Cmp p.2 q.2)) ?_
    refine WP.s .n (O.ge rfl rfl) ?_
    refine WP.nil ?_
    refine QE.next ?_
    refine CW.condD rfl (fun h_t27 => ?_) (fun h_t27 => ?_)
    · refine CW.seq ?_
      refine CW.region ?_
      refine WP.s .n (O.fa rfl fld31_1 rfl) ?_
      refine WP.s .n (O.ld rfl (mem_at 2 rfl) (Lens.snd (Lens.id _)) ty29 rfl) ?_
      refine WP.s .n (O.fa rfl fld31_1 rfl) ?_
      refine WP.s .n (O.ld rfl (mem_at 1 rfl) (Lens.snd (Lens.id _)) ty29 rfl) ?_
      refine WP.s .n (O.fn fn155 (evs.c rfl (evs.c rfl evs.nil)) (c_ref01_Sub p.2 q.2)) ?_
      refine WP.s .n (O.mv rfl) ?_
      refine WP.s .n (O.ext rfl rfl) ?_
      refine WP.s .n (O.ext rfl rfl) ?_
      refine WP.s .n (O.asg rfl) ?_
      refine WP.s .n (O.asg rfl) ?_
      refine WP.nil ?_
      refine QE.next ?_
      refine CW.seq ?_
      refine CW.region ?_
      refine WP.s .n (O.fa rfl fld31_0 rfl) ?_
      refine WP.s .n (O.ld rfl (mem_at 2 rfl) (Lens.fst (Lens.id _)) ty4 rfl) ?_
      refine WP.s .n (O.mv rfl) ?_
      refine WP.s .n (O.fn fn152 (evs.c rfl (evs.c rfl evs.nil)) (c_ref02_made p.1 (if nval p.2 < nval q.2 then [] else limbs (nval p.2 - nval q.2)))) ?_
      refine WP.t .n (O.stW (l := kC) (u := ival (p.1, (if nval p.2 < nval q.2 then [] else limbs (nval p.2 - nval q.2)))) 0 rfl rfl rfl ty31 rfl (VP.le_refl _)) ?_
      refine WP.nil ?_
      refine QE.next ?_
      refine CW.ret ?_
      refine QE.thenR ?_
      exact QE.done (.inl rfl) rfl (ResOk.cl rfl (mem_at 0 rfl) ty31 (is_eq (y := x + y) (by first | omega | assumption | (rw [← p_v, ← q_v]; first | exact add_same h_t13 | exact radd_ge h_t13 h_t27 | exact radd_lt h_t13 h_t27))) ResOk.nil) (OImp.sub (List.nil_sublist _)) ⟨rfl, rfl⟩
    · refine CW.skip ?_
      refine QE.next ?_
      refine CW.seq ?_
      refine CW.region ?_
      refine WP.s .n (O.fa rfl fld31_1 rfl) ?_
      refine WP.s .n (O.ld rfl (mem_at 1 rfl) (Lens.snd (Lens.id _)) ty29 rfl) ?_
      refine WP.s .n (O.fa rfl fld31_1 rfl) ?_
      refine WP.s .n (O.ld rfl (mem_at 2 rfl) (Lens.snd (Lens.id _)) ty29 rfl) ?_
      refine WP.s .n (O.fn fn155 (evs.c rfl (evs.c rfl evs.nil)) (c_ref01_Sub q.2 p.2)) ?_
      refine WP.s .n (O.mv rfl) ?_
      refine WP.s .n (O.ext rfl rfl) ?_
      refine WP.s .n (O.ext rfl rfl) ?_
      refine WP.s .n (O.asg rfl) ?_
      refine WP.s .n (O.asg rfl) ?_
      refine WP.nil ?_
      refine QE.next ?_
      refine CW.seq ?_
      refine CW.region ?_
      refine WP.s .n (O.fa rfl fld31_0 rfl) ?_
      refine WP.s .n (O.ld rfl (mem_at 1 rfl) (Lens.fst (Lens.id _)) ty4 rfl) ?_
      refine WP.s .n (O.mv rfl) ?_
      refine WP.s .n (O.fn fn152 (evs.c rfl (evs.c rfl evs.nil)) (c_ref02_made q.1 (if nval q.2 < nval p.2 then [] else limbs (nval q.2 - nval p.2)))) ?_
      refine WP.t .n (O.stW (l := kC) (u := ival (q.1, (if nval q.2 < nval p.2 then [] else limbs (nval q.2 - nval p.2)))) 0 rfl rfl rfl ty31 rfl (VP.le_refl _)) ?_
      refine WP.nil ?_
      refine QE.next ?_
      refine CW.ret ?_
      exact QE.done (.inl rfl) rfl (ResOk.cl rfl (mem_at 0 rfl) ty31 (is_eq (y := x + y) (by first | omega | assumption | (rw [← p_v, ← q_v]; first | exact add_same h_t13 | exact radd_ge h_t13 h_t27 | exact radd_lt h_t13 h_t27))) ResOk.nil) (OImp.sub (List.nil_sublist _)) ⟨rfl, rfl⟩

end Fw
