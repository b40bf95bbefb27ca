/- Frame, facts and contracts for QuadValues. -/
import Derived.Test.YtgbafijcklgajaaCQuadValuesC
/- What the document's functions on quotients of limbs answer. -/
set_option linter.unusedVariables false
set_option linter.unusedSimpArgs false
set_option exponentiation.threshold 70
namespace Fw
open Go Go.Proofs

set_option maxRecDepth 20000 in
set_option maxHeartbeats 1000000 in
theorem c_ref01_small (l : List Nat) (d : Nat) (hd : d ≠ 0) (hdl : d < 4294967296) : Fn Try.prog 203 [kN.is l, (kInt .u64).is (d : Int)] (VP.tup [kN.is (limbs (nval l / d)), (kInt .u64).is ((nval l % d : Nat) : Int)]) := by
  refine Con.enter Try.func203 rfl rfl fun m w => ?_
  refine ST.fact (i := 0) rfl sl_len fun hB => ?_
  refine ST.fact (i := 0) rfl kN_lims fun hL => ?_
  refine CW.seq ?_
  refine CW.region ?_
  refine WP.s .n (O.asg rfl) ?_
  refine WP.s .n (O.asg rfl) ?_
  refine WP.nil ?_
  refine QE.next ?_
  refine CW.seq ?_
  refine CW.region ?_
  refine WP.s .n (O.mv rfl) ?_
  refine WP.s .n (O.lenS rfl Try.underlying29) ?_
  refine WP.mk l.length .n rfl rfl rfl (by omega) Try.underlying29 el121_limb z121_limb fun v1 => ?_
  refine WP.s .n (O.asg rfl) ?_
  refine WP.nil ?_
  refine QE.next ?_
  refine CW.seq ?_
  refine CW.region ?_
  refine WP.s .n (O.asg rfl) ?_
  refine WP.nil ?_
  refine QE.next ?_
  refine CW.seq ?_
  refine CW.seq ?_
  refine CW.region ?_
  refine WP.s .n (O.mv rfl) ?_
  refine WP.s .n (O.lenS rfl Try.underlying29) ?_
  refine WP.s .n (O.sub rfl rfl (c := ((l.length : Int) - 1)) (w64 (by omega))) ?_
  refine WP.s .n (O.asg rfl) ?_
  refine WP.nil ?_
  refine QE.next ?_
  refine CW.block ?_
  refine CW.loop3 (fun (row : List Nat) (i : Nat) (r : Nat) => i ≤ l.length ∧ ShortR l row d i r) (fun (row : List Nat) (i : Nat) (r : Nat) => [(0, kN.is l), (1, (kInt .u64).is (d : Int)), (6, VP.ex v1), (7, (kInt .u64).is (r : Int)), (8, (kInt .i64).is ((i : Int) - 1))]) (fun (row : List Nat) (i : Nat) (r : Nat) => [OB.row v1 121 kLimb row]) (fun (row : List Nat) (i : Nat) (r : Nat) => i) (List.replicate l.length 0) l.length 0 ⟨Nat.le_refl _, shortR_0 hd⟩ (Imp.cons rfl (Imp.cons rfl (Imp.cons rfl (Imp.consLe rfl (is_eq (y := (0 : Int)) (by first | omega | rfl)) (Imp.consLe rfl (is_eq (y := ((l.length : Nat) : Int) - 1) (by first | omega | rfl)) Imp.nil))))) (OImp.refl _) ?_
  intro row i r ⟨hi, hS⟩
  have hrl := hS.2.1
  have hr := hS.2.2.1
  have hx := getD_lt hL (i - 1)
  have hq := short_q hr hx
  refine CW.seq ?_
  refine CW.seq ?_
  refine CW.region ?_
  refine WP.s .n (O.mv rfl) ?_
  refine WP.s .n (O.ge rfl rfl) ?_
  refine WP.nil ?_
  refine QE.next ?_
  refine CW.condD rfl (fun h_t16 => ?_) (fun h_t16 => ?_)
  · refine CW.skip ?_
    refine QE.next ?_
    refine CW.seq ?_
    refine CW.block ?_
    refine CW.seq ?_
    refine CW.region ?_
    refine WP.s .n (O.mv rfl) ?_
    refine WP.s .n (O.mul rfl rfl (c := ((r * 2 ^ 32 : Nat) : Int)) (wu64 (by omega))) ?_
    refine WP.s .n (O.mv rfl) ?_
    refine WP.s .n (O.mv rfl) ?_
    refine WP.s .n (O.ix (i - 1) rfl rfl Try.underlying29 ty121 (by omega) (v := (l.getD (i - 1) 0)) (gd 0 (by omega))) ?_
    refine WP.s .n (OpOk.le (O.ldP rfl ty121) (limb_le _)) ?_
    refine WP.s .n (O.cvt rfl Try.underlying121 Try.underlying173 (c := ((l.getD (i - 1) 0) : Int)) (wu64 (by omega))) ?_
    refine WP.s .n (O.add rfl rfl (c := ((r * 2 ^ 32 + l.getD (i - 1) 0 : Nat) : Int)) (wu64 (by omega))) ?_
    refine WP.s .n (O.asg rfl) ?_
    refine WP.nil ?_
    refine QE.next ?_
    refine CW.seq ?_
    refine CW.region ?_
    refine WP.s .n (O.mv rfl) ?_
    refine WP.s .n (O.mv rfl) ?_
    refine WP.s .n (O.mv rfl) ?_
    refine WP.s .n (O.mv rfl) ?_
    refine WP.s .n (O.quo rfl rfl (by omega) (c := (((r * 2 ^ 32 + l.getD (i - 1) 0) / d : Nat) : Int)) (quoN d rfl rfl (by omega))) ?_
    refine WP.s .n (O.cvt rfl Try.underlying173 Try.underlying121 (c := (((r * 2 ^ 32 + l.getD (i - 1) 0) / d : Nat) : Int)) (wrs32 ⟨rfl, hq⟩)) ?_
    refine WP.s .n (O.ixR (k := kLimb) (xs := row) (n := (i : Int) - 1) (i - 1) rfl rfl (mem_at 0 rfl) Try.underlying29 ty121 (by omega) (by omega)) ?_
    refine WP.t .n (O.stR 0 (i - 1) rfl rfl (Lens.id _) rfl (y0 := (row.getD (i - 1) 0)) (gd 0 (by omega)) ty121 rfl (u32_limb (x := ((r * 2 ^ 32 + l.getD (i - 1) 0) / d : Nat)) (by omega))) ?_
    refine WP.nil ?_
    refine QE.next ?_
    refine CW.region ?_
    refine WP.s .n (O.mv rfl) ?_
    refine WP.s .n (O.mv rfl) ?_
    refine WP.s .n (O.rem rfl rfl (by omega) (c := (((r * 2 ^ 32 + l.getD (i - 1) 0) % d : Nat) : Int)) (tmodN d rfl rfl)) ?_
    refine WP.s .n (O.asg rfl) ?_
    refine WP.nil ?_
    refine QE.blkN ?_
    refine QE.next ?_
    refine CW.region ?_
    refine WP.s .n (O.mv rfl) ?_
    refine WP.s .n (O.sub rfl rfl (c := (((i : Int) - 1) - 1)) (w64 (by omega))) ?_
    refine WP.s .n (O.asg rfl) ?_
    refine WP.nil ?_
    exact QE.round3 (row.set (i - 1) ((r * 2 ^ 32 + l.getD (i - 1) 0) / d)) (i - 1) ((r * 2 ^ 32 + l.getD (i - 1) 0) % d) (by omega) ⟨by omega, shortR_s hL hdl (by omega) (by omega) hS⟩ (Imp.cons rfl (Imp.cons rfl (Imp.cons rfl (Imp.consLe rfl (is_eq (y := ((((r * 2 ^ 32 + l.getD (i - 1) 0) % d) : Nat) : Int)) (by first | omega | rfl)) (Imp.consLe rfl (is_eq (y := (((i - 1) : Nat) : Int) - 1) (by first | omega | rfl)) Imp.nil))))) (OImp.os (OS.keepLe (OB.row_eq (by first | omega | rfl)) OS.nil))
  · refine CW.exit ?_
    refine QE.thenE ?_
    refine QE.thenE ?_
    refine QE.blkH ?_
    refine QE.next ?_
    refine CW.seq ?_
    refine CW.region ?_
    refine WP.s .n (O.mv rfl) ?_
    refine ST.freeze 0 rfl (.keep (i := 0) rfl (.keep (i := 1) rfl (.hit (i := 6) rfl (.keep (i := 7) rfl (.keep (i := 8) rfl (.keep (i := 15) rfl (.keep (i := 16) rfl (.hit (i := 37) rfl .nil)))))))) ?_
    refine WP.s .n (O.fn fn158 (evs.c rfl evs.nil) (c_ref01_Norm row)) ?_
    refine WP.s .n (O.mv rfl) ?_
    refine WP.s .n (O.asg rfl) ?_
    refine WP.s .n (O.asg rfl) ?_
    refine WP.nil ?_
    refine QE.next ?_
    refine CW.ret ?_
    refine ST.told 4 rfl (is_eq (y := (limbs (nval l / d))) (by rw [(shortR_end (by omega) hS).1])) ?_
    refine ST.told 5 rfl (is_eq (y := ((nval l % d : Nat) : Int)) (by rw [(shortR_end (by omega) hS).2])) ?_
    exact QE.done (.inl rfl) rfl (ResOk.t rfl (ResOk.t rfl ResOk.nil)) (OImp.sub (List.nil_sublist _)) ⟨rfl, rfl⟩

set_option maxRecDepth 20000 in
set_option maxHeartbeats 1000000 in
theorem c_ref01_Two (n : Nat) (hn : n < 32) : Fn Try.prog 204 [(kInt .i64).is (n : Int)] (kN.is [2 ^ n]) := by
  refine Con.enter Try.func204 rfl rfl fun m w => ?_
  have hp := (pow32 hn).2.1
  refine CW.seq ?_
  refine CW.region ?_
  refine WP.s .n (O.asg rfl) ?_
  refine WP.nil ?_
  refine QE.next ?_
  refine CW.seq ?_
  refine CW.region ?_
  refine WP.s .n (O.asg rfl) ?_
  refine WP.nil ?_
  refine QE.next ?_
  refine CW.seq ?_
  refine CW.seq ?_
  refine CW.region ?_
  refine WP.s .n (O.asg rfl) ?_
  refine WP.nil ?_
  refine QE.next ?_
  refine CW.block ?_
  refine ST.nilrow 121 kLimb ?_
  refine CW.loop2 (fun (i : Nat) (v : Value) => i = 0) (fun (i : Nat) (v : Value) => [(0, (kInt .i64).is (n : Int)), (3, VP.ex v), (4, (kInt .i64).is (i : Int))]) (fun (i : Nat) (v : Value) => [OB.row v 121 kLimb []]) (fun (i : Nat) (v : Value) => i) 0 (.slice none 0 0) rfl (Imp.cons rfl (Imp.cons rfl (Imp.consLe rfl (is_eq (y := (0 : Int)) (by first | omega | rfl | simp)) Imp.nil))) (OImp.refl _) ?_
  intro i v hi
  refine CW.seq ?_
  refine CW.seq ?_
  refine CW.region ?_
  refine WP.s .n (O.mv rfl) ?_
  refine WP.s .n (O.mv rfl) ?_
  refine WP.s .n (O.quo rfl rfl (by omega) (c := 0) (quo32 hn)) ?_
  refine WP.s .n (O.lt rfl rfl) ?_
  refine WP.nil ?_
  refine QE.next ?_
  refine CW.condD rfl (fun h => absurd h (by omega)) (fun h_t8 => ?_)
  refine CW.exit ?_
  refine QE.thenE ?_
  refine QE.thenE ?_
  refine QE.blkH ?_
  refine QE.next ?_
  refine CW.seq ?_
  refine CW.region ?_
  refine WP.s .n (O.mv rfl) ?_
  refine WP.s .n (O.mv rfl) ?_
  refine WP.s .n (O.rem rfl rfl (by omega) (c := (n : Int)) (rem32 hn)) ?_
  refine WP.s .n (O.cvt rfl Try.underlying3 Try.underlying172 (c := (n : Int)) (wu64 (by omega))) ?_
  refine WP.s .n (O.shl rfl rfl (by omega) (c := ((2 ^ n : Nat) : Int)) (shl1_32 hn rfl)) ?_
  refine WP.s .n (O.bs Try.underlying29 el121_limb (evl.l rfl (u32_limb (x := (2 ^ n : Nat)) (by omega)) evl.n) rfl (by decide)) ?_
  refine WP.ap 0 .n rfl rfl rfl (VP.le_refl _) Try.underlying29 el121_limb (by simp) fun v1 => ?_
  refine WP.s .n (O.asg rfl) ?_
  refine WP.nil ?_
  refine QE.next ?_
  refine CW.ret ?_
  refine ST.freeze 0 rfl (.keep (i := 0) rfl (.hit (i := 2) rfl (.keep (i := 3) rfl (.keep (i := 4) rfl (.keep (i := 5) rfl (.keep (i := 6) rfl (.keep (i := 7) rfl (.keep (i := 8) rfl (.keep (i := 14) rfl (.keep (i := 15) rfl (.keep (i := 16) rfl (.keep (i := 17) rfl (.keep (i := 18) rfl (.keep (i := 19) rfl (.hit (i := 20) rfl .nil))))))))))))))) ?_
  exact QE.done (.inl rfl) rfl (ResOk.tl rfl (is_eq (y := [2 ^ n]) (by first | omega | rfl | simp)) ResOk.nil) (OImp.sub (List.nil_sublist _)) ⟨rfl, rfl⟩

set_option maxRecDepth 20000 in
set_option maxHeartbeats 1000000 in
theorem c_ref01_Shr (l : List Nat) (n : Nat) (hn : n < 32) : Fn Try.prog 205 [kN.is l, (kInt .i64).is (n : Int)] (VP.tup [kN.is (limbs (nval l / 2 ^ n)), (kInt .i64).is 0]) := by
  refine Con.enter Try.func205 rfl rfl fun m w => ?_
  refine ST.fact (i := 0) rfl sl_len fun hB => ?_
  refine ST.fact (i := 0) rfl kN_lims fun hL => ?_
  refine CW.seq ?_
  refine CW.region ?_
  refine WP.s .n (O.asg rfl) ?_
  refine WP.s .n (O.asg rfl) ?_
  refine WP.nil ?_
  refine QE.next ?_
  refine CW.seq ?_
  refine CW.seq ?_
  refine CW.region ?_
  refine WP.s .n (O.mv rfl) ?_
  refine WP.s .n (O.lt rfl rfl) ?_
  refine WP.nil ?_
  refine QE.next ?_
  refine CW.condD rfl (fun h => absurd h (by omega)) (fun h_t10 => ?_)
  refine CW.skip ?_
  refine QE.next ?_
  refine CW.seq ?_
  refine CW.seq ?_
  refine CW.region ?_
  refine WP.s .n (O.mv rfl) ?_
  refine WP.s .n (O.mv rfl) ?_
  refine WP.s .n (O.fn fn164 (evs.c rfl evs.nil) (c_ref01_Bits l)) ?_
  refine WP.s .n (O.ge rfl rfl) ?_
  refine WP.nil ?_
  refine QE.next ?_
  refine CW.condD rfl (fun h_t14 => ?_) (fun h_t14 => ?_)
  · refine CW.seq ?_
    refine CW.region ?_
    refine WP.s .n (O.asg rfl) ?_
    refine WP.s .n (O.asg rfl) ?_
    refine WP.nil ?_
    refine QE.next ?_
    refine CW.ret ?_
    refine QE.thenR ?_
    refine ST.told (q := kN.is ([] : List Nat)) 4 rfl (nil_le _) ?_
    refine ST.told 4 rfl (is_eq (y := (limbs (nval l / 2 ^ n))) (by rw [Nat.div_eq_of_lt (Nat.lt_of_lt_of_le (lt_bitlen _) (Nat.pow_le_pow_right (by decide) (by omega))), limbs_zero])) ?_
    exact QE.done (.inl rfl) rfl (ResOk.t rfl (ResOk.t rfl ResOk.nil)) (OImp.sub (List.nil_sublist _)) ⟨rfl, rfl⟩
  · refine CW.skip ?_
    refine QE.next ?_
    refine CW.seq ?_
    refine CW.region ?_
    refine WP.s .n (O.asg rfl) ?_
    refine WP.nil ?_
    refine QE.next ?_
    refine CW.seq ?_
    refine CW.seq ?_
    refine CW.region ?_
    refine WP.s .n (O.mv rfl) ?_
    refine WP.s .n (O.quo rfl rfl (by omega) (c := 0) (quo32 hn)) ?_
    refine WP.s .n (O.asg rfl) ?_
    refine WP.nil ?_
    refine QE.next ?_
    refine CW.block ?_
    refine ST.nilrow 121 kLimb ?_
    refine CW.loop2 (fun (r : List Nat) (v : Value) => ShrR l r n) (fun (r : List Nat) (v : Value) => [(0, kN.is l), (1, (kInt .i64).is (n : Int)), (5, (kInt .i64).is 0), (6, VP.ex v), (7, (kInt .i64).is (r.length : Int))]) (fun (r : List Nat) (v : Value) => [OB.row v 121 kLimb r]) (fun (r : List Nat) (v : Value) => l.length - r.length) [] (.slice none 0 0) (shrR_0 _ _) (Imp.cons rfl (Imp.cons rfl (Imp.cons rfl (Imp.cons rfl (Imp.consLe rfl (is_eq (y := ([].length : Int)) (by first | omega | rfl | simp)) Imp.nil))))) (OImp.refl _) ?_
    intro r v hS
    have hi := hS.1
    have hx := getD_lt hL r.length
    have hy := getD_lt hL (r.length + 1)
    refine CW.seq ?_
    refine CW.seq ?_
    refine CW.region ?_
    refine WP.s .n (O.mv rfl) ?_
    refine WP.s .n (O.mv rfl) ?_
    refine WP.s .n (O.lenS rfl Try.underlying29) ?_
    refine WP.s .n (O.lt rfl rfl) ?_
    refine WP.nil ?_
    refine QE.next ?_
    refine CW.condD rfl (fun h_t20 => ?_) (fun h_t20 => ?_)
    · refine CW.skip ?_
      refine QE.next ?_
      refine CW.seq ?_
      refine CW.block ?_
      refine CW.seq ?_
      refine CW.region ?_
      refine WP.s .n (O.mv rfl) ?_
      refine WP.s .n (O.mv rfl) ?_
      refine WP.s .n (O.fn fn200 (evs.c rfl (evs.l rfl (is_eq (y := ((r.length : Nat) : Int)) (by first | omega | rfl | simp)) evs.nil)) (c_ref01_limb l r.length)) ?_
      refine WP.s .n (O.mv rfl) ?_
      refine WP.s .n (O.mv rfl) ?_
      refine WP.s .n (O.add rfl rfl (c := ((r.length : Int) + 1)) (w64 (by omega))) ?_
      refine WP.s .n (O.fn fn200 (evs.c rfl (evs.l rfl (is_eq (y := (((r.length + 1) : Nat) : Int)) (by first | omega | rfl | simp)) evs.nil)) (c_ref01_limb l (r.length + 1))) ?_
      refine WP.s .n (O.mul rfl rfl (c := ((l.getD (r.length + 1) 0 : Int) * 4294967296)) (wu64 (by omega))) ?_
      refine WP.s .n (O.add rfl rfl (c := ((l.getD (r.length + 1) 0 * 2 ^ 32 + l.getD r.length 0 : Nat) : Int)) (wu64 (by omega))) ?_
      refine WP.s .n (O.asg rfl) ?_
      refine WP.nil ?_
      refine QE.next ?_
      refine CW.region ?_
      refine WP.s .n (O.mv rfl) ?_
      refine WP.s .n (O.mv rfl) ?_
      refine WP.s .n (O.mv rfl) ?_
      refine WP.s .n (O.rem rfl rfl (by omega) (c := (n : Int)) (rem32 hn)) ?_
      refine WP.s .n (O.cvt rfl Try.underlying3 Try.underlying172 (c := (n : Int)) (wu64 (by omega))) ?_
      refine WP.s .n (O.shr rfl rfl (by omega) (c := (((l.getD (r.length + 1) 0 * 2 ^ 32 + l.getD r.length 0) / 2 ^ n : Nat) : Int)) (shrN n rfl rfl (show n ≤ 64 by omega))) ?_
      refine WP.s .n (O.rem rfl rfl (by omega) (c := ((((l.getD (r.length + 1) 0 * 2 ^ 32 + l.getD r.length 0) / 2 ^ n % 4294967296) : Nat) : Int)) (tmodN 4294967296 rfl rfl)) ?_
      refine WP.s .n (O.cvt rfl Try.underlying173 Try.underlying121 (c := ((((l.getD (r.length + 1) 0 * 2 ^ 32 + l.getD r.length 0) / 2 ^ n % 4294967296) : Nat) : Int)) (wrs32 (by omega))) ?_
      refine WP.s .n (O.bs Try.underlying29 el121_limb (evl.l rfl (u32_limb (x := (((l.getD (r.length + 1) 0 * 2 ^ 32 + l.getD r.length 0) / 2 ^ n % 4294967296) : Nat)) (by omega)) evl.n) rfl (by decide)) ?_
      refine WP.ap 0 .n rfl rfl rfl (VP.le_refl _) Try.underlying29 el121_limb (by simp; omega) fun v1 => ?_
      refine WP.s .n (O.asg rfl) ?_
      refine WP.nil ?_
      refine QE.blkN ?_
      refine QE.next ?_
      refine CW.region ?_
      refine WP.s .n (O.mv rfl) ?_
      refine WP.s .n (O.add rfl rfl (c := ((r.length : Int) + 1)) (w64 (by omega))) ?_
      refine WP.s .n (O.asg rfl) ?_
      refine WP.nil ?_
      exact QE.round2 (r ++ [((l.getD (r.length + 1) 0 * 2 ^ 32 + l.getD r.length 0) / 2 ^ n % 4294967296)]) v1 (by simp; omega) (shrR_s hL hn (by omega) hS) (Imp.cons rfl (Imp.cons rfl (Imp.cons rfl (Imp.cons rfl (Imp.consLe rfl (is_eq (y := ((r ++ [((l.getD (r.length + 1) 0 * 2 ^ 32 + l.getD r.length 0) / 2 ^ n % 4294967296)]).length : Int)) (by first | omega | rfl | simp)) Imp.nil))))) (OImp.os (OS.keepLe (OB.row_eq (by first | omega | rfl | simp)) OS.nil))
    · refine CW.exit ?_
      refine QE.thenE ?_
      refine QE.thenE ?_
      refine QE.blkH ?_
      refine QE.next ?_
      refine CW.seq ?_
      refine CW.region ?_
      refine WP.s .n (O.mv rfl) ?_
      refine ST.freeze 0 rfl (.keep (i := 0) rfl (.keep (i := 1) rfl (.keep (i := 5) rfl (.hit (i := 6) rfl (.keep (i := 7) rfl (.keep (i := 17) rfl (.keep (i := 18) rfl (.keep (i := 19) rfl (.keep (i := 20) rfl (.hit (i := 42) rfl .nil)))))))))) ?_
      refine WP.s .n (O.fn fn158 (evs.c rfl evs.nil) (c_ref01_Norm r)) ?_
      refine WP.s .n (O.asg rfl) ?_
      refine WP.s .n (O.asg rfl) ?_
      refine WP.nil ?_
      refine QE.next ?_
      refine CW.ret ?_
      refine ST.told 4 rfl (is_eq (y := (limbs (nval l / 2 ^ n))) (by rw [shrR_end hL (by omega) hS])) ?_
      exact QE.done (.inl rfl) rfl (ResOk.t rfl (ResOk.t rfl ResOk.nil)) (OImp.sub (List.nil_sublist _)) ⟨rfl, rfl⟩

set_option maxRecDepth 20000 in
set_option maxHeartbeats 4000000 in
theorem c_ref01_Div (a b : List Nat) (hA : a.length ≤ 549755813000) (hB : b.length ≤ 549755813000) : Fn Try.prog 162 [kN.is a, kN.is b] (VP.tup [kN.is (limbs (nval a / nval b)), kN.is (if nval b = 0 then [] else limbs (nval a % nval b)), (kInt .i64).is (if nval b = 0 then 11 else 0)]) := by
  refine Con.enter Try.func162 rfl rfl fun m w => ?_
  refine ST.fact (i := 0) rfl kN_lims fun la => ?_
  refine ST.fact (i := 1) rfl kN_lims fun lb => ?_
  have hlb := limbs_len_le lb
  have lB := limbs_lims (nval b)
  refine CW.seq ?_
  refine CW.region ?_
  refine WP.s .n (O.asg rfl) ?_
  refine WP.s .n (O.asg rfl) ?_
  refine WP.s .n (O.asg rfl) ?_
  refine WP.nil ?_
  refine QE.next ?_
  refine CW.seq ?_
  refine CW.region ?_
  refine WP.s .n (O.mv rfl) ?_
  refine WP.s .n (O.fn fn158 (evs.c rfl evs.nil) (c_ref01_Norm b)) ?_
  refine WP.s .n (O.asg rfl) ?_
  refine WP.nil ?_
  refine QE.next ?_
  refine CW.seq ?_
  refine CW.seq ?_
  refine CW.region ?_
  refine WP.s .n (O.mv rfl) ?_
  refine WP.s .n (O.lenS rfl Try.underlying29) ?_
  refine WP.s .n (O.eq rfl rfl) ?_
  refine WP.nil ?_
  refine QE.next ?_
  refine CW.condD rfl (fun h_t24 => ?_) (fun h_t24 => ?_)
  · have hb0 : nval b = 0 := limbs0 (by omega)
    refine CW.seq ?_
    refine CW.region ?_
    refine WP.s .n (O.asg rfl) ?_
    refine WP.s .n (O.asg rfl) ?_
    refine WP.s .n (O.asg rfl) ?_
    refine WP.nil ?_
    refine QE.next ?_
    refine CW.ret ?_
    refine QE.thenR ?_
    refine ST.told (q := kN.is ([] : List Nat)) 4 rfl (nil_le _) ?_
    refine ST.told (q := kN.is ([] : List Nat)) 5 rfl (nil_le _) ?_
    refine ST.told 4 rfl (is_eq (y := (limbs (nval a / nval b))) (by rw [hb0, Nat.div_zero, limbs_zero])) ?_
    refine ST.told 5 rfl (is_eq (y := (if nval b = 0 then [] else limbs (nval a % nval b))) (by rw [if_pos hb0])) ?_
    refine ST.told 6 rfl (is_eq (y := (if nval b = 0 then 11 else 0)) (by rw [if_pos hb0])) ?_
    exact QE.done (.inl rfl) rfl (ResOk.t rfl (ResOk.t rfl (ResOk.t rfl ResOk.nil))) (OImp.sub (List.nil_sublist _)) ⟨rfl, rfl⟩
  · have hb0 : nval b ≠ 0 := fun h => by rw [h, limbs_zero] at h_t24; exact h_t24 rfl
    have hlbp := limbs_len_pos hb0
    refine CW.skip ?_
    refine QE.next ?_
    refine CW.seq ?_
    refine CW.seq ?_
    refine CW.region ?_
    refine WP.s .n (O.mv rfl) ?_
    refine WP.s .n (O.lenS rfl Try.underlying29) ?_
    refine WP.s .n (O.eq rfl rfl) ?_
    refine WP.nil ?_
    refine QE.next ?_
    refine CW.condD rfl (fun h_t27 => ?_) (fun h_t27 => ?_)
    · refine CW.seq ?_
      have hx0 := getD_lt lB 0
      refine CW.region ?_
      refine WP.s .n (O.mv rfl) ?_
      refine WP.s .n (O.mv rfl) ?_
      refine WP.s .n (O.ix 0 rfl rfl Try.underlying29 ty121 rfl (v := ((limbs (nval b)).getD 0 0)) (gd 0 (by first | omega | (simp; omega)))) ?_
      refine WP.s .n (OpOk.le (O.ldP rfl ty121) (limb_le _)) ?_
      refine WP.s .n (O.cvt rfl Try.underlying121 Try.underlying173 (c := (((limbs (nval b)).getD 0 0) : Int)) (wu64 (by omega))) ?_
      refine WP.s .n (O.fn fn203 (evs.c rfl (evs.l rfl (is_eq (y := ((((limbs (nval b)).getD 0 0) : Nat) : Int)) (by first | omega | rfl | simp)) evs.nil)) (c_ref01_small a ((limbs (nval b)).getD 0 0) (by rw [one_limb (by omega)]; exact hb0) hx0)) ?_
      refine WP.s .n (O.mv rfl) ?_
      refine WP.s .n (O.ext rfl rfl) ?_
      refine WP.s .n (O.ext rfl rfl) ?_
      refine WP.s .n (O.asg rfl) ?_
      refine WP.s .n (O.asg rfl) ?_
      refine WP.nil ?_
      refine QE.next ?_
      refine CW.seq ?_
      have hm : nval a % (limbs (nval b)).getD 0 0 < 4294967296 := Nat.lt_of_lt_of_le (Nat.mod_lt _ (by rw [one_limb (by omega)]; omega)) (Nat.le_of_lt hx0)
      refine CW.region ?_
      refine WP.s .n (O.mv rfl) ?_
      refine WP.s .n (O.mv rfl) ?_
      refine WP.s .n (O.cvt rfl Try.underlying173 Try.underlying121 (c := ((nval a % (limbs (nval b)).getD 0 0 : Nat) : Int)) (wrs32 ⟨rfl, hm⟩)) ?_
      refine WP.s .n (O.bs Try.underlying29 el121_limb (evl.l rfl (u32_limb (x := (nval a % (limbs (nval b)).getD 0 0 : Nat)) (by omega)) evl.n) rfl (by decide)) ?_
      refine WP.s .n (O.fn fn158 (evs.c rfl evs.nil) (c_ref01_Norm [(nval a % (limbs (nval b)).getD 0 0 : Nat)])) ?_
      refine WP.s .n (O.asg rfl) ?_
      refine WP.s .n (O.asg rfl) ?_
      refine WP.s .n (O.asg rfl) ?_
      refine WP.nil ?_
      refine QE.next ?_
      refine CW.ret ?_
      refine QE.thenR ?_
      refine ST.told 4 rfl (is_eq (y := (limbs (nval a / nval b))) (by rw [one_limb (by omega)])) ?_
      refine ST.told 5 rfl (is_eq (y := (if nval b = 0 then [] else limbs (nval a % nval b))) (by rw [if_neg hb0, one_limb (by omega)]; simp [nval])) ?_
      refine ST.told 6 rfl (is_eq (y := (if nval b = 0 then 11 else 0)) (by rw [if_neg hb0])) ?_
      exact QE.done (.inl rfl) rfl (ResOk.t rfl (ResOk.t rfl (ResOk.t rfl ResOk.nil))) (OImp.sub (List.nil_sublist _)) ⟨rfl, rfl⟩
    · refine CW.skip ?_
      refine QE.next ?_
      refine CW.seq ?_
      obtain ⟨s, hsv, hs, hvl⟩ := div_sh hb0
      have hV0 : (nval b * 2 ^ s) ≠ 0 := Nat.mul_ne_zero hb0 (Nat.ne_of_gt (Nat.two_pow_pos s))
      have lU := limbs_lims (nval a * 2 ^ s)
      have hbl := bits_limbs hb0
      have hbl3 : bitlen (nval (limbs (nval b))) = 32 * ((limbs (nval b)).length - 1) + bitlen ((limbs (nval b)).getD ((limbs (nval b)).length - 1) 0) := by rw [nval_limbs]; exact hbl
      have htop := limbs_top hV0
      refine CW.region ?_
      refine WP.s .n (O.mv rfl) ?_
      refine WP.s .n (O.lenS rfl Try.underlying29) ?_
      refine WP.s .n (O.mul rfl rfl (c := (32 * ((limbs (nval b)).length : Int))) (w64 (by omega))) ?_
      refine WP.s .n (O.mv rfl) ?_
      refine WP.s .n (O.fn fn164 (evs.c rfl evs.nil) (c_ref01_Bits (limbs (nval b)))) ?_
      refine WP.s .n (O.sub rfl rfl (c := ((32 * ((limbs (nval b)).length : Int)) - (bitlen (nval (limbs (nval b))) : Int))) (w64 (by omega))) ?_
      refine ST.told 47 rfl (is_eq (y := (s : Int)) (by rw [nval_limbs]; omega)) ?_
      refine WP.s .n (O.fn fn204 (evs.c rfl evs.nil) (c_ref01_Two s hs)) ?_
      refine WP.s .n (O.asg rfl) ?_
      refine WP.nil ?_
      refine QE.next ?_
      refine CW.seq ?_
      refine CW.region ?_
      refine WP.s .n (O.mv rfl) ?_
      refine WP.s .n (O.mv rfl) ?_
      refine WP.s .n (O.fn fn163 (evs.c rfl (evs.c rfl evs.nil)) (c_ref01_Mul a [2 ^ s] (by simp; omega))) ?_
      refine WP.s .n (O.asg rfl) ?_
      refine WP.nil ?_
      refine QE.next ?_
      refine CW.seq ?_
      refine ST.told 11 rfl (is_eq (y := limbs (nval a * 2 ^ s)) (by simp [nval])) ?_
      refine CW.region ?_
      refine WP.s .n (O.mv rfl) ?_
      refine WP.s .n (O.mv rfl) ?_
      refine WP.s .n (O.fn fn163 (evs.c rfl (evs.c rfl evs.nil)) (c_ref01_Mul (limbs (nval b)) [2 ^ s] (by simp; omega))) ?_
      refine WP.s .n (O.asg rfl) ?_
      refine WP.nil ?_
      refine QE.next ?_
      refine CW.seq ?_
      refine ST.told 12 rfl (is_eq (y := (limbs (nval b * 2 ^ s))) (by rw [nval_limbs]; simp [nval])) ?_
      refine ST.fact (i := 11) rfl sl_len fun hUB => ?_
      refine CW.region ?_
      refine WP.s .n (O.mv rfl) ?_
      refine WP.s .n (O.lenS rfl Try.underlying29) ?_
      refine WP.mk ((limbs (nval a * 2 ^ s)).length) .n rfl rfl rfl (by first | omega | (simp; omega)) Try.underlying29 el121_limb z121_limb fun v1 => ?_
      refine WP.s .n (O.asg rfl) ?_
      refine WP.nil ?_
      refine QE.next ?_
      refine CW.seq ?_
      refine CW.region ?_
      refine WP.s .n (O.asg rfl) ?_
      refine WP.nil ?_
      refine QE.next ?_
      refine CW.seq ?_
      refine CW.seq ?_
      refine CW.region ?_
      refine WP.s .n (O.mv rfl) ?_
      refine WP.s .n (O.lenS rfl Try.underlying29) ?_
      refine WP.s .n (O.sub rfl rfl (c := (((limbs (nval a * 2 ^ s)).length : Int) - 1)) (w64 (by omega))) ?_
      refine WP.s .n (O.asg rfl) ?_
      refine WP.nil ?_
      refine QE.next ?_
      refine CW.block ?_
      refine ST.told (q := kN.is ([] : List Nat)) 14 rfl (nil_le _) ?_
      refine ST.told 14 rfl (is_eq (y := (limbs 0)) (by rw [limbs_zero])) ?_
      refine CW.loop4 (fun (qs : List Nat) (k : Nat) (rest : Nat) (vq : Value) => RDiv (limbs (nval a * 2 ^ s)) (nval b * 2 ^ s) qs k rest) (fun (qs : List Nat) (k : Nat) (rest : Nat) (vq : Value) => [(7, kN.is (limbs (nval b))), (11, kN.is (limbs (nval a * 2 ^ s))), (12, kN.is (limbs (nval b * 2 ^ s))), (13, VP.ex vq), (14, kN.is (limbs rest)), (15, (kInt .i64).is ((k : Int) - 1))]) (fun (qs : List Nat) (k : Nat) (rest : Nat) (vq : Value) => [OB.row vq 121 kLimb qs]) (fun (qs : List Nat) (k : Nat) (rest : Nat) (vq : Value) => k) (List.replicate (limbs (nval a * 2 ^ s)).length 0) ((limbs (nval a * 2 ^ s)).length) 0 v1 (rdiv_0 hV0) (Imp.cons rfl (Imp.cons rfl (Imp.cons rfl (Imp.cons rfl (Imp.cons rfl (Imp.consLe rfl (is_eq (y := ((((limbs (nval a * 2 ^ s)).length) : Nat) : Int) - 1) (by first | omega | rfl | simp)) Imp.nil)))))) (OImp.os (OS.keepLe (OB.row_eq (by first | omega | rfl | simp)) OS.nil)) ?_
      intro qs k rest vq hD
      have hrl := limbs_mono (Nat.le_of_lt hD.2.2.2.1)
      have hql := hD.1
      have hk := hD.2.2.1
      have hx := getD_lt lU (k - 1)
      refine CW.seq ?_
      refine CW.seq ?_
      refine CW.region ?_
      refine WP.s .n (O.mv rfl) ?_
      refine WP.s .n (O.ge rfl rfl) ?_
      refine WP.nil ?_
      refine QE.next ?_
      refine CW.condD rfl (fun h_t62 => ?_) (fun h_t62 => ?_)
      · refine CW.skip ?_
        refine QE.next ?_
        refine CW.seq ?_
        refine CW.block ?_
        refine CW.seq ?_
        refine CW.region ?_
        refine WP.s .n (O.mv rfl) ?_
        refine WP.s .n (O.mv rfl) ?_
        refine WP.s .n (O.ix (k - 1) rfl rfl Try.underlying29 ty121 (by omega) (v := ((limbs (nval a * 2 ^ s)).getD (k - 1) 0)) (gd 0 (by first | omega | (simp; omega)))) ?_
        refine WP.s .n (OpOk.le (O.ldP rfl ty121) (limb_le _)) ?_
        refine WP.bso .n Try.underlying29 el121_limb (evl.l rfl (u32_limb (x := ((limbs (nval a * 2 ^ s)).getD (k - 1) 0)) (by omega)) evl.n) rfl (by decide) fun v2 => ?_
        refine WP.s .n (O.mv rfl) ?_
        refine WP.ap 0 .n rfl rfl rfl (VP.le_refl _) Try.underlying29 el121_limb (by simp; omega) fun v3 => ?_
        refine ST.freeze 0 rfl (.keep (i := 7) rfl (.keep (i := 11) rfl (.keep (i := 12) rfl (.keep (i := 13) rfl (.keep (i := 14) rfl (.keep (i := 15) rfl (.keep (i := 61) rfl (.keep (i := 62) rfl (.keep (i := 65) rfl (.keep (i := 66) rfl (.keep (i := 67) rfl (.keep (i := 68) rfl (.keep (i := 69) rfl (.keep (i := 70) rfl (.hit (i := 71) rfl .nil))))))))))))))) ?_
        refine WP.s .n (O.fn fn158 (evs.c rfl evs.nil) (c_ref01_Norm ([((limbs (nval a * 2 ^ s)).getD (k - 1) 0)] ++ limbs rest))) ?_
        refine WP.s .n (O.asg rfl) ?_
        refine WP.nil ?_
        refine QE.next ?_
        refine CW.seq ?_
        refine CW.seq ?_
        obtain ⟨R, hR⟩ : ∃ R, R = (limbs (nval a * 2 ^ s)).getD (k - 1) 0 + 4294967296 * rest := ⟨_, rfl⟩
        refine ST.told 14 rfl (is_eq (y := (limbs R)) (by rw [hR]; simp [nval, nval_limbs])) ?_
        have hRV : R < (nval b * 2 ^ s) * 4294967296 := by rw [hR]; exact rdiv_R lU (by omega) hD
        refine CW.region ?_
        refine WP.s .n (O.mv rfl) ?_
        refine WP.s .n (O.mv rfl) ?_
        refine WP.s .n (O.fn fn154 (evs.c rfl (evs.c rfl evs.nil)) (c_ref01_Cmp (limbs R) (limbs (nval b * 2 ^ s)))) ?_
        refine WP.s .n (O.lt rfl rfl) ?_
        refine WP.nil ?_
        refine QE.next ?_
        refine CW.condD rfl (fun h_t76 => ?_) (fun h_t76 => ?_)
        · refine CW.exit ?_
          refine QE.thenE ?_
          refine QE.blkH ?_
          refine QE.next ?_
          refine CW.region ?_
          refine WP.s .n (O.mv rfl) ?_
          refine WP.s .n (O.sub rfl rfl (c := (((k : Int) - 1) - 1)) (w64 (by omega))) ?_
          refine WP.s .n (O.asg rfl) ?_
          refine WP.nil ?_
          exact QE.round4 qs (k - 1) R vq (by omega) (by rw [hR]; exact rdiv_lt (by omega) hD (by rw [← hR]; have := cmpI_lt h_t76; rwa [nval_limbs, nval_limbs] at this)) (Imp.cons rfl (Imp.cons rfl (Imp.cons rfl (Imp.cons rfl (Imp.cons rfl (Imp.consLe rfl (is_eq (y := (((k - 1) : Nat) : Int) - 1) (by first | omega | rfl | simp)) Imp.nil)))))) (OImp.refl _)
        · refine CW.skip ?_
          refine QE.next ?_
          refine CW.seq ?_
          have hr1 := getD_lt (limbs_lims R) (limbs (nval b * 2 ^ s)).length
          have hr2 := getD_lt (limbs_lims R) ((limbs (nval b * 2 ^ s)).length - 1)
          have hr3 := getD_lt (limbs_lims (nval b * 2 ^ s)) ((limbs (nval b * 2 ^ s)).length - 1)
          refine CW.region ?_
          refine WP.s .n (O.mv rfl) ?_
          refine WP.s .n (O.mv rfl) ?_
          refine WP.s .n (O.lenS rfl Try.underlying29) ?_
          refine WP.s .n (O.fn fn200 (evs.c rfl (evs.l rfl (is_eq (y := ((((limbs (nval b * 2 ^ s)).length) : Nat) : Int)) (by first | omega | rfl | simp)) evs.nil)) (c_ref01_limb (limbs R) ((limbs (nval b * 2 ^ s)).length))) ?_
          refine WP.s .n (O.mul rfl rfl (c := (((limbs R).getD ((limbs (nval b * 2 ^ s)).length) 0 : Int) * 4294967296)) (wu64 (by omega))) ?_
          refine WP.s .n (O.mv rfl) ?_
          refine WP.s .n (O.mv rfl) ?_
          refine WP.s .n (O.lenS rfl Try.underlying29) ?_
          refine WP.s .n (O.sub rfl rfl (c := (((limbs (nval b * 2 ^ s)).length : Int) - 1)) (w64 (by omega))) ?_
          refine WP.s .n (O.fn fn200 (evs.c rfl (evs.l rfl (is_eq (y := ((((limbs (nval b * 2 ^ s)).length - 1) : Nat) : Int)) (by first | omega | rfl | simp)) evs.nil)) (c_ref01_limb (limbs R) ((limbs (nval b * 2 ^ s)).length - 1))) ?_
          refine WP.s .n (O.add rfl rfl (c := ((((limbs R).getD ((limbs (nval b * 2 ^ s)).length) 0 : Int) * 4294967296) + ((limbs R).getD ((limbs (nval b * 2 ^ s)).length - 1) 0 : Int))) (wu64 (by omega))) ?_
          refine WP.s .n (O.mv rfl) ?_
          refine WP.s .n (O.mv rfl) ?_
          refine WP.s .n (O.lenS rfl Try.underlying29) ?_
          refine WP.s .n (O.sub rfl rfl (c := (((limbs (nval b * 2 ^ s)).length : Int) - 1)) (w64 (by omega))) ?_
          refine WP.s .n (O.fn fn200 (evs.c rfl (evs.l rfl (is_eq (y := ((((limbs (nval b * 2 ^ s)).length - 1) : Nat) : Int)) (by first | omega | rfl | simp)) evs.nil)) (c_ref01_limb (limbs (nval b * 2 ^ s)) ((limbs (nval b * 2 ^ s)).length - 1))) ?_
          refine WP.s .n (O.quo rfl rfl (by omega) (c := ((((limbs R).getD (limbs (nval b * 2 ^ s)).length 0 * 4294967296 + (limbs R).getD ((limbs (nval b * 2 ^ s)).length - 1) 0) / (limbs (nval b * 2 ^ s)).getD ((limbs (nval b * 2 ^ s)).length - 1) 0 : Nat) : Int)) (quoN ((limbs (nval b * 2 ^ s)).getD ((limbs (nval b * 2 ^ s)).length - 1) 0) (by omega) rfl (by omega))) ?_
          refine WP.s .n (O.asg rfl) ?_
          refine WP.nil ?_
          refine QE.next ?_
          refine CW.seq ?_
          refine CW.seq ?_
          obtain ⟨G, hG⟩ : ∃ G, G = ((limbs R).getD (limbs (nval b * 2 ^ s)).length 0 * 4294967296 + (limbs R).getD ((limbs (nval b * 2 ^ s)).length - 1) 0) / (limbs (nval b * 2 ^ s)).getD ((limbs (nval b * 2 ^ s)).length - 1) 0 := ⟨_, rfl⟩
          refine ST.told 16 rfl (is_eq (y := (G : Int)) (by rw [hG])) ?_
          have hGq : R / (nval b * 2 ^ s) ≤ G := by rw [hG]; exact rdiv_top rfl hV0 hRV
          have hQ : R / (nval b * 2 ^ s) < 4294967296 := (Nat.div_lt_iff_lt_mul (Nat.pos_of_ne_zero hV0)).2 (by rw [Nat.mul_comm]; exact hRV)
          refine CW.region ?_
          refine WP.s .n (O.mv rfl) ?_
          refine WP.s .n (O.ge rfl rfl) ?_
          refine WP.nil ?_
          refine QE.next ?_
          refine CW.condD rfl (fun h_t95 => ?_) (fun h_t95 => ?_)
          · refine CW.region ?_
            refine WP.s .n (O.asg rfl) ?_
            refine WP.nil ?_
            refine QE.next ?_
            refine CW.seq ?_
            obtain ⟨g, hgd⟩ : ∃ g, g = 4294967295 := ⟨_, rfl⟩
            refine ST.told 16 rfl (is_eq (y := (g : Int)) (by rw [hgd]; rfl)) ?_
            have hgl : g < 4294967296 := by omega
            have hgq : R / (nval b * 2 ^ s) ≤ g := by omega
            refine CW.region ?_
            refine WP.s .n (O.mv rfl) ?_
            refine WP.s .n (O.mv rfl) ?_
            refine WP.s .n (O.cvt rfl Try.underlying173 Try.underlying121 (c := (g : Int)) (wrs32 (by omega))) ?_
            refine WP.s .n (O.bs Try.underlying29 el121_limb (evl.l rfl (u32_limb (x := g) (by omega)) evl.n) rfl (by decide)) ?_
            refine WP.s .n (O.fn fn163 (evs.c rfl (evs.c rfl evs.nil)) (c_ref01_Mul (limbs (nval b * 2 ^ s)) [g] (by simp; omega))) ?_
            refine WP.s .n (O.asg rfl) ?_
            refine WP.nil ?_
            refine QE.next ?_
            refine CW.seq ?_
            refine CW.block ?_
            refine ST.told 17 rfl (is_eq (y := (limbs ((nval b * 2 ^ s) * g))) (by rw [nval_limbs]; simp [nval])) ?_
            refine CW.loop (fun (g : Nat) => R / (nval b * 2 ^ s) ≤ g ∧ g < 4294967296) (fun (g : Nat) => [(7, kN.is (limbs (nval b))), (11, kN.is (limbs (nval a * 2 ^ s))), (12, kN.is (limbs (nval b * 2 ^ s))), (13, VP.ex vq), (14, kN.is (limbs R)), (15, (kInt .i64).is ((k : Int) - 1)), (16, (kInt .u64).is (g : Int)), (17, kN.is (limbs ((nval b * 2 ^ s) * g)))]) (fun (g : Nat) => [OB.row vq 121 kLimb qs]) (fun (g : Nat) => g) g ⟨hgq, hgl⟩ (Imp.cons rfl (Imp.cons rfl (Imp.cons rfl (Imp.cons rfl (Imp.cons rfl (Imp.cons rfl (Imp.cons rfl (Imp.cons rfl Imp.nil)))))))) (OImp.refl _) ?_
            intro g hg
            have hg2 := hg.2
            refine CW.seq ?_
            refine CW.seq ?_
            refine CW.region ?_
            refine WP.s .n (O.mv rfl) ?_
            refine WP.s .n (O.mv rfl) ?_
            refine WP.s .n (O.fn fn154 (evs.c rfl (evs.c rfl evs.nil)) (c_ref01_Cmp (limbs ((nval b * 2 ^ s) * g)) (limbs R))) ?_
            refine WP.s .n (O.gt rfl rfl) ?_
            refine WP.nil ?_
            refine QE.next ?_
            refine CW.condD rfl (fun h_t104 => ?_) (fun h_t104 => ?_)
            · refine CW.skip ?_
              refine QE.next ?_
              refine CW.block ?_
              refine CW.seq ?_
              have hgt : R < (nval b * 2 ^ s) * g := by have := cmpI_gt h_t104; rwa [nval_limbs, nval_limbs] at this
              have hg0 : R / (nval b * 2 ^ s) < g := (Nat.div_lt_iff_lt_mul (Nat.pos_of_ne_zero hV0)).2 (by rw [Nat.mul_comm]; exact hgt)
              have hg1 : 1 ≤ g := Nat.lt_of_le_of_lt (Nat.zero_le _) hg0
              refine CW.region ?_
              refine WP.s .n (O.mv rfl) ?_
              refine WP.s .n (O.sub rfl rfl (c := ((g - 1 : Nat) : Int)) (wu64 (by omega))) ?_
              refine WP.s .n (O.asg rfl) ?_
              refine WP.nil ?_
              refine QE.next ?_
              refine CW.region ?_
              refine WP.s .n (O.mv rfl) ?_
              refine WP.s .n (O.mv rfl) ?_
              refine WP.s .n (O.fn fn201 (evs.c rfl (evs.c rfl evs.nil)) (c_ref01_less (limbs ((nval b * 2 ^ s) * g)) (limbs (nval b * 2 ^ s)) (by rw [nval_limbs, nval_limbs]; exact Nat.le_mul_of_pos_right _ (by omega)))) ?_
              refine WP.s .n (O.asg rfl) ?_
              refine WP.nil ?_
              refine QE.blkN ?_
              refine ST.told 17 rfl (is_eq (y := (limbs ((nval b * 2 ^ s) * (g - 1)))) (by rw [nval_limbs, nval_limbs, Nat.mul_sub, Nat.mul_one])) ?_
              exact QE.round (g - 1) (by omega) ⟨by omega, by omega⟩ (Imp.cons rfl (Imp.cons rfl (Imp.cons rfl (Imp.cons rfl (Imp.cons rfl (Imp.cons rfl (Imp.consLe rfl (is_eq (y := (((g - 1) : Nat) : Int)) (by first | omega | rfl | simp)) (Imp.cons rfl Imp.nil)))))))) (OImp.refl _)
            · refine CW.exit ?_
              refine QE.thenE ?_
              refine QE.thenE ?_
              refine QE.blkH ?_
              refine QE.next ?_
              refine CW.seq ?_
              have hle : (nval b * 2 ^ s) * g ≤ R := by have := cmpI_ngt h_t104; rwa [nval_limbs, nval_limbs] at this
              have hgR : g = R / (nval b * 2 ^ s) := Nat.le_antisymm ((Nat.le_div_iff_mul_le (Nat.pos_of_ne_zero hV0)).2 (by rw [Nat.mul_comm]; exact hle)) hg.1
              refine CW.region ?_
              refine WP.s .n (O.mv rfl) ?_
              refine WP.s .n (O.mv rfl) ?_
              refine WP.s .n (O.mv rfl) ?_
              refine WP.s .n (O.cvt rfl Try.underlying173 Try.underlying121 (c := (g : Int)) (wrs32 (by omega))) ?_
              refine WP.s .n (O.ixR (k := kLimb) (xs := qs) (n := (k : Int) - 1) (k - 1) rfl rfl (mem_at 0 rfl) Try.underlying29 ty121 (by omega) (by first | omega | (simp; omega))) ?_
              refine WP.t .n (O.stR 0 (k - 1) rfl rfl (Lens.id _) rfl (y0 := (qs.getD (k - 1) 0)) (gd 0 (by first | omega | (simp; omega))) ty121 rfl (u32_limb (x := g) (by omega))) ?_
              refine WP.nil ?_
              refine QE.next ?_
              refine CW.region ?_
              refine WP.s .n (O.mv rfl) ?_
              refine WP.s .n (O.mv rfl) ?_
              refine WP.s .n (O.fn fn201 (evs.c rfl (evs.c rfl evs.nil)) (c_ref01_less (limbs R) (limbs ((nval b * 2 ^ s) * g)) (by rw [nval_limbs, nval_limbs]; exact hle))) ?_
              refine WP.s .n (O.asg rfl) ?_
              refine WP.nil ?_
              refine QE.blkN ?_
              refine QE.next ?_
              refine CW.region ?_
              refine WP.s .n (O.mv rfl) ?_
              refine WP.s .n (O.sub rfl rfl (c := (((k : Int) - 1) - 1)) (w64 (by omega))) ?_
              refine WP.s .n (O.asg rfl) ?_
              refine WP.nil ?_
              refine ST.told 14 rfl (is_eq (y := (limbs (R - (nval b * 2 ^ s) * g))) (by rw [nval_limbs, nval_limbs])) ?_
              exact QE.round4 (qs.set (k - 1) g) (k - 1) (R - (nval b * 2 ^ s) * g) vq (by omega) (by rw [hR]; exact rdiv_ge lU (by omega) hD (by rw [← hR]; exact hgR) hg.2) (Imp.cons rfl (Imp.cons rfl (Imp.cons rfl (Imp.cons rfl (Imp.cons rfl (Imp.consLe rfl (is_eq (y := (((k - 1) : Nat) : Int) - 1) (by first | omega | rfl | simp)) Imp.nil)))))) (OImp.refl _)
          · refine CW.skip ?_
            refine QE.next ?_
            refine CW.seq ?_
            obtain ⟨g, hgd⟩ : ∃ g, g = G := ⟨_, rfl⟩
            refine ST.told 16 rfl (is_eq (y := (g : Int)) (by rw [hgd])) ?_
            have hgl : g < 4294967296 := by omega
            have hgq : R / (nval b * 2 ^ s) ≤ g := by omega
            refine CW.region ?_
            refine WP.s .n (O.mv rfl) ?_
            refine WP.s .n (O.mv rfl) ?_
            refine WP.s .n (O.cvt rfl Try.underlying173 Try.underlying121 (c := (g : Int)) (wrs32 (by omega))) ?_
            refine WP.s .n (O.bs Try.underlying29 el121_limb (evl.l rfl (u32_limb (x := g) (by omega)) evl.n) rfl (by decide)) ?_
            refine WP.s .n (O.fn fn163 (evs.c rfl (evs.c rfl evs.nil)) (c_ref01_Mul (limbs (nval b * 2 ^ s)) [g] (by simp; omega))) ?_
            refine WP.s .n (O.asg rfl) ?_
            refine WP.nil ?_
            refine QE.next ?_
            refine CW.seq ?_
            refine CW.block ?_
            refine ST.told 17 rfl (is_eq (y := (limbs ((nval b * 2 ^ s) * g))) (by rw [nval_limbs]; simp [nval])) ?_
            refine CW.loop (fun (g : Nat) => R / (nval b * 2 ^ s) ≤ g ∧ g < 4294967296) (fun (g : Nat) => [(7, kN.is (limbs (nval b))), (11, kN.is (limbs (nval a * 2 ^ s))), (12, kN.is (limbs (nval b * 2 ^ s))), (13, VP.ex vq), (14, kN.is (limbs R)), (15, (kInt .i64).is ((k : Int) - 1)), (16, (kInt .u64).is (g : Int)), (17, kN.is (limbs ((nval b * 2 ^ s) * g)))]) (fun (g : Nat) => [OB.row vq 121 kLimb qs]) (fun (g : Nat) => g) g ⟨hgq, hgl⟩ (Imp.cons rfl (Imp.cons rfl (Imp.cons rfl (Imp.cons rfl (Imp.cons rfl (Imp.cons rfl (Imp.cons rfl (Imp.cons rfl Imp.nil)))))))) (OImp.refl _) ?_
            intro g hg
            have hg2 := hg.2
            refine CW.seq ?_
            refine CW.seq ?_
            refine CW.region ?_
            refine WP.s .n (O.mv rfl) ?_
            refine WP.s .n (O.mv rfl) ?_
            refine WP.s .n (O.fn fn154 (evs.c rfl (evs.c rfl evs.nil)) (c_ref01_Cmp (limbs ((nval b * 2 ^ s) * g)) (limbs R))) ?_
            refine WP.s .n (O.gt rfl rfl) ?_
            refine WP.nil ?_
            refine QE.next ?_
            refine CW.condD rfl (fun h_t104 => ?_) (fun h_t104 => ?_)
            · refine CW.skip ?_
              refine QE.next ?_
              refine CW.block ?_
              refine CW.seq ?_
              have hgt : R < (nval b * 2 ^ s) * g := by have := cmpI_gt h_t104; rwa [nval_limbs, nval_limbs] at this
              have hg0 : R / (nval b * 2 ^ s) < g := (Nat.div_lt_iff_lt_mul (Nat.pos_of_ne_zero hV0)).2 (by rw [Nat.mul_comm]; exact hgt)
              have hg1 : 1 ≤ g := Nat.lt_of_le_of_lt (Nat.zero_le _) hg0
              refine CW.region ?_
              refine WP.s .n (O.mv rfl) ?_
              refine WP.s .n (O.sub rfl rfl (c := ((g - 1 : Nat) : Int)) (wu64 (by omega))) ?_
              refine WP.s .n (O.asg rfl) ?_
              refine WP.nil ?_
              refine QE.next ?_
              refine CW.region ?_
              refine WP.s .n (O.mv rfl) ?_
              refine WP.s .n (O.mv rfl) ?_
              refine WP.s .n (O.fn fn201 (evs.c rfl (evs.c rfl evs.nil)) (c_ref01_less (limbs ((nval b * 2 ^ s) * g)) (limbs (nval b * 2 ^ s)) (by rw [nval_limbs, nval_limbs]; exact Nat.le_mul_of_pos_right _ (by omega)))) ?_
              refine WP.s .n (O.asg rfl) ?_
              refine WP.nil ?_
              refine QE.blkN ?_
              refine ST.told 17 rfl (is_eq (y := (limbs ((nval b * 2 ^ s) * (g - 1)))) (by rw [nval_limbs, nval_limbs, Nat.mul_sub, Nat.mul_one])) ?_
              exact QE.round (g - 1) (by omega) ⟨by omega, by omega⟩ (Imp.cons rfl (Imp.cons rfl (Imp.cons rfl (Imp.cons rfl (Imp.cons rfl (Imp.cons rfl (Imp.consLe rfl (is_eq (y := (((g - 1) : Nat) : Int)) (by first | omega | rfl | simp)) (Imp.cons rfl Imp.nil)))))))) (OImp.refl _)
            · refine CW.exit ?_
              refine QE.thenE ?_
              refine QE.thenE ?_
              refine QE.blkH ?_
              refine QE.next ?_
              refine CW.seq ?_
              have hle : (nval b * 2 ^ s) * g ≤ R := by have := cmpI_ngt h_t104; rwa [nval_limbs, nval_limbs] at this
              have hgR : g = R / (nval b * 2 ^ s) := Nat.le_antisymm ((Nat.le_div_iff_mul_le (Nat.pos_of_ne_zero hV0)).2 (by rw [Nat.mul_comm]; exact hle)) hg.1
              refine CW.region ?_
              refine WP.s .n (O.mv rfl) ?_
              refine WP.s .n (O.mv rfl) ?_
              refine WP.s .n (O.mv rfl) ?_
              refine WP.s .n (O.cvt rfl Try.underlying173 Try.underlying121 (c := (g : Int)) (wrs32 (by omega))) ?_
              refine WP.s .n (O.ixR (k := kLimb) (xs := qs) (n := (k : Int) - 1) (k - 1) rfl rfl (mem_at 0 rfl) Try.underlying29 ty121 (by omega) (by first | omega | (simp; omega))) ?_
              refine WP.t .n (O.stR 0 (k - 1) rfl rfl (Lens.id _) rfl (y0 := (qs.getD (k - 1) 0)) (gd 0 (by first | omega | (simp; omega))) ty121 rfl (u32_limb (x := g) (by omega))) ?_
              refine WP.nil ?_
              refine QE.next ?_
              refine CW.region ?_
              refine WP.s .n (O.mv rfl) ?_
              refine WP.s .n (O.mv rfl) ?_
              refine WP.s .n (O.fn fn201 (evs.c rfl (evs.c rfl evs.nil)) (c_ref01_less (limbs R) (limbs ((nval b * 2 ^ s) * g)) (by rw [nval_limbs, nval_limbs]; exact hle))) ?_
              refine WP.s .n (O.asg rfl) ?_
              refine WP.nil ?_
              refine QE.blkN ?_
              refine QE.next ?_
              refine CW.region ?_
              refine WP.s .n (O.mv rfl) ?_
              refine WP.s .n (O.sub rfl rfl (c := (((k : Int) - 1) - 1)) (w64 (by omega))) ?_
              refine WP.s .n (O.asg rfl) ?_
              refine WP.nil ?_
              refine ST.told 14 rfl (is_eq (y := (limbs (R - (nval b * 2 ^ s) * g))) (by rw [nval_limbs, nval_limbs])) ?_
              exact QE.round4 (qs.set (k - 1) g) (k - 1) (R - (nval b * 2 ^ s) * g) vq (by omega) (by rw [hR]; exact rdiv_ge lU (by omega) hD (by rw [← hR]; exact hgR) hg.2) (Imp.cons rfl (Imp.cons rfl (Imp.cons rfl (Imp.cons rfl (Imp.cons rfl (Imp.consLe rfl (is_eq (y := (((k - 1) : Nat) : Int) - 1) (by first | omega | rfl | simp)) Imp.nil)))))) (OImp.refl _)
      · refine CW.exit ?_
        refine QE.thenE ?_
        refine QE.thenE ?_
        refine QE.blkH ?_
        refine QE.next ?_
        refine CW.seq ?_
        refine CW.region ?_
        refine WP.s .n (O.mv rfl) ?_
        refine WP.s .n (O.mv rfl) ?_
        refine WP.s .n (O.lenS rfl Try.underlying29) ?_
        refine WP.s .n (O.mul rfl rfl (c := (32 * ((limbs (nval b)).length : Int))) (w64 (by omega))) ?_
        refine WP.s .n (O.mv rfl) ?_
        refine WP.s .n (O.fn fn164 (evs.c rfl evs.nil) (c_ref01_Bits (limbs (nval b)))) ?_
        refine WP.s .n (O.sub rfl rfl (c := ((32 * ((limbs (nval b)).length : Int)) - (bitlen (nval (limbs (nval b))) : Int))) (w64 (by omega))) ?_
        refine ST.told 125 rfl (is_eq (y := (s : Int)) (by rw [nval_limbs]; omega)) ?_
        refine WP.s .n (O.fn fn205 (evs.c rfl (evs.c rfl evs.nil)) (c_ref01_Shr (limbs rest) s hs)) ?_
        refine WP.s .n (O.mv rfl) ?_
        refine WP.s .n (O.ext rfl rfl) ?_
        refine WP.s .n (O.ext rfl rfl) ?_
        refine WP.s .n (O.asg rfl) ?_
        refine WP.s .n (O.asg rfl) ?_
        refine WP.nil ?_
        refine QE.next ?_
        refine CW.seq ?_
        refine CW.region ?_
        refine WP.s .n (O.mv rfl) ?_
        refine ST.freeze 0 rfl (.keep (i := 7) rfl (.keep (i := 11) rfl (.keep (i := 12) rfl (.hit (i := 13) rfl (.keep (i := 14) rfl (.keep (i := 15) rfl (.keep (i := 18) rfl (.keep (i := 19) rfl (.keep (i := 61) rfl (.keep (i := 62) rfl (.keep (i := 118) rfl (.keep (i := 119) rfl (.keep (i := 120) rfl (.keep (i := 121) rfl (.keep (i := 122) rfl (.keep (i := 123) rfl (.keep (i := 124) rfl (.keep (i := 125) rfl (.keep (i := 126) rfl (.keep (i := 127) rfl (.keep (i := 128) rfl (.hit (i := 129) rfl .nil)))))))))))))))))))))) ?_
        refine WP.s .n (O.fn fn158 (evs.c rfl evs.nil) (c_ref01_Norm qs)) ?_
        refine WP.s .n (O.mv rfl) ?_
        refine WP.s .n (O.asg rfl) ?_
        refine WP.s .n (O.asg rfl) ?_
        refine WP.s .n (O.asg rfl) ?_
        refine WP.nil ?_
        refine QE.next ?_
        refine CW.ret ?_
        have hend := rdiv_end (by omega) hD
        refine ST.told 4 rfl (is_eq (y := (limbs (nval a / nval b))) (by rw [hend.1])) ?_
        refine ST.told 5 rfl (is_eq (y := (if nval b = 0 then [] else limbs (nval a % nval b))) (by rw [if_neg hb0, nval_limbs, hend.2])) ?_
        refine ST.told 6 rfl (is_eq (y := (if nval b = 0 then 11 else 0)) (by rw [if_neg hb0])) ?_
        exact QE.done (.inl rfl) rfl (ResOk.t rfl (ResOk.t rfl (ResOk.t rfl ResOk.nil))) (OImp.sub (List.nil_sublist _)) ⟨rfl, rfl⟩

set_option maxRecDepth 20000 in
set_option maxHeartbeats 1000000 in
theorem c_ref01_Gcd (a b : List Nat) (hA : a.length ≤ 549755813000) (hB : b.length ≤ 549755813000) : Fn Try.prog 166 [kN.is a, kN.is b] (kN.is (limbs (Nat.gcd (nval a) (nval b)))) := by
  refine Con.enter Try.func166 rfl rfl fun m w => ?_
  refine ST.fact (i := 0) rfl kN_lims fun la => ?_
  refine ST.fact (i := 1) rfl kN_lims fun lb => ?_
  have hla := limbs_len_le la
  have hlb := limbs_len_le lb
  refine CW.seq ?_
  refine CW.region ?_
  refine WP.s .n (O.asg rfl) ?_
  refine WP.nil ?_
  refine QE.next ?_
  refine CW.seq ?_
  refine CW.region ?_
  refine WP.s .n (O.mv rfl) ?_
  refine WP.s .n (O.fn fn158 (evs.c rfl evs.nil) (c_ref01_Norm a)) ?_
  refine WP.s .n (O.asg rfl) ?_
  refine WP.nil ?_
  refine QE.next ?_
  refine CW.seq ?_
  refine CW.region ?_
  refine WP.s .n (O.mv rfl) ?_
  refine WP.s .n (O.fn fn158 (evs.c rfl evs.nil) (c_ref01_Norm b)) ?_
  refine WP.s .n (O.asg rfl) ?_
  refine WP.nil ?_
  refine QE.next ?_
  refine CW.seq ?_
  refine CW.block ?_
  refine CW.loop2 (fun (x : Nat) (y : Nat) => Nat.gcd x y = Nat.gcd (nval a) (nval b) ∧ (limbs x).length ≤ 549755813000 ∧ (limbs y).length ≤ 549755813000) (fun (x : Nat) (y : Nat) => [(5, kN.is (limbs x)), (6, kN.is (limbs y))]) (fun (x : Nat) (y : Nat) => []) (fun (x : Nat) (y : Nat) => y) (nval a) (nval b) ⟨rfl, by omega, by omega⟩ (Imp.cons rfl (Imp.cons rfl Imp.nil)) (OImp.refl _) ?_
  intro x y ⟨hg, hx, hy⟩
  refine CW.seq ?_
  refine CW.seq ?_
  refine CW.region ?_
  refine WP.s .n (O.mv rfl) ?_
  refine WP.s .n (O.lenS rfl Try.underlying29) ?_
  refine WP.s .n (O.gt rfl rfl) ?_
  refine WP.nil ?_
  refine QE.next ?_
  refine CW.condD rfl (fun h_t16 => ?_) (fun h_t16 => ?_)
  · have hy0 : y ≠ 0 := fun h => by rw [h, limbs_zero] at h_t16; simp at h_t16
    refine CW.skip ?_
    refine QE.next ?_
    refine CW.block ?_
    refine CW.seq ?_
    refine CW.region ?_
    refine WP.s .n (O.mv rfl) ?_
    refine WP.s .n (O.mv rfl) ?_
    refine WP.s .n (O.fn fn162 (evs.c rfl (evs.c rfl evs.nil)) (c_ref01_Div (limbs x) (limbs y) (by omega) (by omega))) ?_
    refine WP.s .n (O.mv rfl) ?_
    refine WP.s .n (O.ext rfl rfl) ?_
    refine WP.s .n (O.ext rfl rfl) ?_
    refine WP.s .n (O.ext rfl rfl) ?_
    refine WP.s .n (O.asg rfl) ?_
    refine WP.s .n (O.asg rfl) ?_
    refine WP.s .n (O.asg rfl) ?_
    refine WP.nil ?_
    refine QE.next ?_
    refine CW.seq ?_
    refine CW.region ?_
    refine WP.s .n (O.mv rfl) ?_
    refine WP.s .n (O.asg rfl) ?_
    refine WP.nil ?_
    refine QE.next ?_
    refine CW.region ?_
    refine WP.s .n (O.mv rfl) ?_
    refine WP.s .n (O.asg rfl) ?_
    refine WP.nil ?_
    refine QE.blkN ?_
    refine ST.told 6 rfl (is_eq (y := (limbs (x % y))) (by rw [nval_limbs, nval_limbs, if_neg hy0])) ?_
    exact QE.round2 y (x % y) (by exact Nat.mod_lt _ (Nat.pos_of_ne_zero hy0)) ⟨by rw [← hg, Nat.gcd_comm x y, Nat.gcd_rec y x, Nat.gcd_comm], hy, Nat.le_trans (limbs_mono (Nat.le_of_lt (Nat.mod_lt _ (Nat.pos_of_ne_zero hy0)))) hy⟩ (Imp.cons rfl (Imp.cons rfl Imp.nil)) (OImp.refl _)
  · refine CW.exit ?_
    refine QE.thenE ?_
    refine QE.thenE ?_
    refine QE.blkH ?_
    refine QE.next ?_
    refine CW.seq ?_
    refine CW.region ?_
    refine WP.s .n (O.mv rfl) ?_
    refine WP.s .n (O.asg rfl) ?_
    refine WP.nil ?_
    refine QE.next ?_
    refine CW.ret ?_
    have hy0 : y = 0 := limbs0 (by omega)
    refine ST.told 4 rfl (is_eq (y := (limbs (Nat.gcd (nval a) (nval b)))) (by rw [← hg, hy0, Nat.gcd_zero_right])) ?_
    exact QE.done (.inl rfl) rfl (ResOk.t rfl ResOk.nil) (OImp.sub (List.nil_sublist _)) ⟨rfl, rfl⟩

end Fw


/- What Floor of layer 2 answers. -/
set_option linter.unusedVariables false
set_option linter.unusedSimpArgs false
set_option exponentiation.threshold 70
namespace Fw
open Go Go.Proofs

set_option maxRecDepth 20000 in
set_option maxHeartbeats 8000000 in
theorem c_zint_Floor (x y : Int) : Fn Try.prog 105 [kZ.is x, kZ.is y] (VP.tup [kC.is (x.fdiv y), kC.is (if y = 0 then 0 else x.fmod y), (kInt .i64).is (if y = 0 then 11 else 0)]) := by
  refine Con.enter Try.func105 rfl rfl fun m w => ?_
  refine ST.fact (i := 0) rfl kZ_sm fun hsx => ?_
  refine ST.z 0 rfl fun p p_v p_n p_l => ?_
  refine ST.z 1 rfl fun q q_v q_n q_l => ?_
  refine CW.seq ?_
  refine CW.region ?_
  refine WP.bx .n rfl fun b1 => ?_
  refine WP.bx .n rfl fun b2 => ?_
  refine WP.al .n z31_C fun b3 => ?_
  refine WP.al .n z31_C fun b4 => ?_
  refine WP.s .n (O.asg rfl) ?_
  refine WP.nil ?_
  refine QE.next ?_
  refine CW.seq ?_
  refine CW.region ?_
  refine WP.s .n (O.fa rfl fld31_1 rfl) ?_
  refine WP.s .n (O.ld rfl (mem_at 3 rfl) (Lens.snd (Lens.id _)) ty29 rfl) ?_
  refine WP.s .n (O.fa rfl fld31_1 rfl) ?_
  refine WP.s .n (O.ld rfl (mem_at 2 rfl) (Lens.snd (Lens.id _)) ty29 rfl) ?_
  refine WP.s .n (O.fn fn169 (evs.c rfl (evs.c rfl evs.nil)) (c_nat_Div p.2 q.2 (by omega) (by omega))) ?_
  refine WP.s .n (O.mv rfl) ?_
  refine WP.s .n (O.ext rfl rfl) ?_
  refine WP.s .n (O.ext rfl rfl) ?_
  refine WP.s .n (O.ext rfl rfl) ?_
  refine WP.s .n (O.asg rfl) ?_
  refine WP.s .n (O.asg rfl) ?_
  refine WP.s .n (O.asg rfl) ?_
  refine WP.nil ?_
  refine QE.next ?_
  refine CW.seq ?_
  refine CW.seq ?_
  refine CW.region ?_
  refine WP.s .n (O.mv rfl) ?_
  refine WP.s .n (O.ne rfl rfl) ?_
  refine WP.nil ?_
  refine QE.next ?_
  refine CW.condD rfl (fun h_t22 => ?_) (fun h_t22 => ?_)
  · have hq0 : nval q.2 = 0 := by by_cases h : nval q.2 = 0; exact h; simp [h] at h_t22
    have hy : y = 0 := by rw [← q_v, ival0 hq0]
    refine CW.seq ?_
    refine CW.region ?_
    refine WP.s .n (O.bld lit31_C rfl evp.n (.nil _)) ?_
    refine WP.s .n (O.bld lit31_C rfl evp.n (.nil _)) ?_
    refine WP.t .n (O.stW (l := kC) (u := 0) 1 rfl rfl rfl ty31 rfl (VP.le_refl _)) ?_
    refine WP.t .n (O.stW (l := kC) (u := 0) 0 rfl rfl rfl ty31 rfl (VP.le_refl _)) ?_
    refine WP.s .n (O.asg rfl) ?_
    refine WP.nil ?_
    refine QE.next ?_
    refine CW.ret ?_
    refine QE.thenR ?_
    refine ST.obtold 1 rfl (OB.box_eq (y := (x.fdiv y)) (by rw [hy, Int.fdiv_zero])) ?_
    refine ST.obtold 0 rfl (OB.box_eq (y := (if y = 0 then 0 else x.fmod y)) (by rw [if_pos hy])) ?_
    refine ST.told 6 rfl (is_eq (y := (if y = 0 then 11 else 0)) (by rw [if_pos hy])) ?_
    exact QE.done (.inl rfl) rfl (ResOk.c rfl (mem_at 1 rfl) ty31 (ResOk.c rfl (mem_at 0 rfl) ty31 (ResOk.t rfl ResOk.nil))) (OImp.sub (List.nil_sublist _)) ⟨rfl, rfl⟩
  · have hq0 : nval q.2 ≠ 0 := fun h => by simp [h] at h_t22
    have hy : y ≠ 0 := fun h => by rw [← q_v] at h; have := ival_abs q; rw [h] at this; exact hq0 this.symm
    refine CW.skip ?_
    refine QE.next ?_
    refine CW.seq ?_
    refine CW.draw (Γ := [.fr (VP.ex (.pointer (some ⟨b1, 0, none⟩))), .fr (kBool.is p.1), .fr (VP.ex (.pointer (some ⟨b2, 0, none⟩))), .fr (kBool.is q.1), .fr (kBool.is (decide (p.1 ≠ q.1))), .fr (kN.is (limbs (nval p.2 / nval q.2))), .fr (kC.is (ival ((decide (p.1 ≠ q.1)), (limbs (nval p.2 / nval q.2))))), .fr (VP.ex (.pointer (some ⟨b1, 0, none⟩))), .fr (kBool.is p.1), .fr (kN.is (if nval q.2 = 0 then [] else limbs (nval p.2 % nval q.2))), .fr (kC.is (ival (p.1, (if nval q.2 = 0 then [] else limbs (nval p.2 % nval q.2))))), .al (fun b => OB.box b 31 kC 0), .al (fun b => OB.box b 31 kC 0)]) (lates := [false, false, false, false, false, false, false, false, false, false, false, false, false]) (by kernel_rfl) (Chk.of rfl (by kernel_rfl) rfl) (fun _ _ _ _ _ h => h) (fun q_ x_ h_ => ?_) (fun σ => ?_)
    · match q_, h_ with
      | 0, h_ => cases h_; exact Ob.f rfl .n fun N => (O.fa rfl fld31_0 rfl)
      | 1, h_ => cases h_; exact Ob.f rfl .n fun N => (O.ld rfl (mem_app N (mem_at 3 rfl)) (Lens.fst (Lens.id _)) ty4 rfl)
      | 2, h_ => cases h_; exact Ob.f rfl .n fun N => (O.fa rfl fld31_0 rfl)
      | 3, h_ => cases h_; exact Ob.f rfl .n fun N => (O.ld rfl (mem_app N (mem_at 2 rfl)) (Lens.fst (Lens.id _)) ty4 rfl)
      | 4, h_ => cases h_; exact Ob.f rfl .n fun N => (O.neB rfl rfl Try.underlying4)
      | 5, h_ => cases h_; exact Ob.f rfl .n fun N => (O.mv rfl)
      | 6, h_ => cases h_; exact Ob.f rfl .n fun N => (O.fn fn147 (evs.c rfl (evs.c rfl evs.nil)) (c_zint_made (decide (p.1 ≠ q.1)) (limbs (nval p.2 / nval q.2))))
      | 7, h_ => cases h_; exact Ob.f rfl .n fun N => (O.fa rfl fld31_0 rfl)
      | 8, h_ => cases h_; exact Ob.f rfl .n fun N => (O.ld rfl (mem_app N (mem_at 3 rfl)) (Lens.fst (Lens.id _)) ty4 rfl)
      | 9, h_ => cases h_; exact Ob.f rfl .n fun N => (O.mv rfl)
      | 10, h_ => cases h_; exact Ob.f rfl .n fun N => (O.fn fn147 (evs.c rfl (evs.c rfl evs.nil)) (c_zint_made p.1 (if nval q.2 = 0 then [] else limbs (nval p.2 % nval q.2))))
      | 11, h_ => cases h_; exact Ob.a rfl z31_C
      | 12, h_ => cases h_; exact Ob.a rfl z31_C
      | n_ + 13, h_ => simp at h_
    refine WP.t .n (O.stW (l := kC) (u := ival ((decide (p.1 ≠ q.1)), (limbs (nval p.2 / nval q.2)))) 0 rfl rfl rfl ty31 rfl (VP.le_refl _)) ?_
    refine WP.t .n (O.stW (l := kC) (u := ival (p.1, (if nval q.2 = 0 then [] else limbs (nval p.2 % nval q.2)))) 1 rfl rfl rfl ty31 rfl (VP.le_refl _)) ?_
    refine WP.nil ?_
    refine QE.next ?_
    refine CW.seq ?_
    refine CW.seq ?_
    obtain ⟨M, hM⟩ : ∃ M, M = ival (decide (p.1 ≠ q.1), limbs (nval p.2 / nval q.2)) := ⟨_, rfl⟩
    obtain ⟨R, hR⟩ : ∃ R, R = ival (p.1, if nval q.2 = 0 then [] else limbs (nval p.2 % nval q.2)) := ⟨_, rfl⟩
    refine ST.obtold 0 rfl (OB.box_eq (y := M) hM.symm) ?_
    refine ST.obtold 1 rfl (OB.box_eq (y := R) hR.symm) ?_
    have hx : x = M * y + R := by rw [← p_v, ← q_v, hM, hR]; exact div_split hq0
    have hl : R.natAbs < y.natAbs := by rw [← q_v, hR]; exact rem_lt hq0
    have hsM : Sm M := Sm_le hsx (by rw [hM, ← p_v, ival_abs, ival_abs, nval_limbs]; exact Nat.div_le_self _ _)
    have hsR : Sm R := Sm_le hsx (by rw [hR, ← p_v, ival_abs, ival_abs, if_neg hq0, nval_limbs]; exact Nat.mod_le _ _)
    have hs1 : Sm 1 := Sm_lit (by decide)
    by_cases h5 : R.sign ≠ 0
    · refine CW.draw (Γ := [.fr (kC.is R), .fr ((kInt .i64).is R.sign), .fr (kBool.is true), .fr (kBool.is true), .fr (kC.is R), .fr ((kInt .i64).is R.sign), .fr (kI.is (q.1, q.2)), .fr ((kInt .i64).is ((ival (q.1, q.2)).sign)), .fr (kBool.is (decide (R.sign ≠ ((ival (q.1, q.2)).sign)))), .fr (kBool.is (decide (R.sign ≠ ((ival (q.1, q.2)).sign))))]) (lates := [false, false, false, false, false, false, false, false, false, false]) (by kernel_rfl) (Chk.of rfl (by kernel_rfl) rfl) (fun _ _ _ _ _ h => h) (fun q_ x_ h_ => ?_) (fun σ => ?_)
      · match q_, h_ with
        | 0, h_ => cases h_; exact Ob.f rfl .n fun N => (O.ld rfl (mem_app N (mem_at 1 rfl)) (Lens.id _) ty31 rfl)
        | 1, h_ => cases h_; exact Ob.f rfl .n fun N => (O.fn fn80 (evs.l rfl (kC_Z (by assumption)) evs.nil) (c_zint_Sign R))
        | 2, h_ => cases h_; exact Ob.f rfl .n fun N => (OpOk.le (O.ne rfl rfl) (is_eq (by simp [h5])))
        | 3, h_ => cases h_; exact Ob.f rfl .n fun N => (O.mv rfl)
        | 4, h_ => cases h_; exact Ob.f rfl (.g rfl rfl) fun N => (O.ld rfl (mem_app N (mem_at 1 rfl)) (Lens.id _) ty31 rfl)
        | 5, h_ => cases h_; exact Ob.f rfl (.g rfl rfl) fun N => (O.fn fn80 (evs.l rfl (kC_Z (by assumption)) evs.nil) (c_zint_Sign R))
        | 6, h_ => cases h_; exact Ob.f rfl (.g rfl rfl) fun N => (O.ld rfl (mem_app N (mem_at 4 rfl)) (Lens.id _) ty31 rfl)
        | 7, h_ => cases h_; exact Ob.f rfl (.g rfl rfl) fun N => (O.fn fn80 (evs.l rfl (kI_Z rfl (by omega)) evs.nil) (c_zint_Sign (ival (q.1, q.2))))
        | 8, h_ => cases h_; exact Ob.f rfl (.g rfl rfl) fun N => (O.ne rfl rfl)
        | 9, h_ => cases h_; exact Ob.f rfl .n fun N => (O.pickT rfl rfl)
        | n_ + 10, h_ => simp at h_
      refine WP.nil ?_
      refine QE.next ?_
      refine CW.condD rfl (fun h_t45 => ?_) (fun h_t45 => ?_)
      · refine CW.draw (Γ := [.fr (kC.is M), .fr (kC.is 1), .fr (kC.is (M - 1)), .fr (kC.is R), .fr (kI.is (q.1, q.2)), .fr (kC.is (R + (ival (q.1, q.2))))]) (lates := [false, false, false, false, false, false]) (by kernel_rfl) (Chk.of rfl (by kernel_rfl) rfl) (fun _ _ _ _ _ h => h) (fun q_ x_ h_ => ?_) (fun σ => ?_)
        · match q_, h_ with
          | 0, h_ => cases h_; exact Ob.f rfl .n fun N => (O.ld rfl (mem_app N (mem_at 0 rfl)) (Lens.id _) ty31 rfl)
          | 1, h_ => cases h_; exact Ob.f rfl .n fun N => (O.fn fn74 (evs.l rfl (i64_int (by omega)) evs.nil) (c_zint_Of 1))
          | 2, h_ => cases h_; exact Ob.f rfl .n fun N => (O.fn fn157 (evs.l rfl (kC_Z (by assumption)) (evs.l rfl (kC_Z (by assumption)) evs.nil)) (c_zint_Sub M 1))
          | 3, h_ => cases h_; exact Ob.f rfl .n fun N => (O.ld rfl (mem_app N (mem_at 1 rfl)) (Lens.id _) ty31 rfl)
          | 4, h_ => cases h_; exact Ob.f rfl .n fun N => (O.ld rfl (mem_app N (mem_at 4 rfl)) (Lens.id _) ty31 rfl)
          | 5, h_ => cases h_; exact Ob.f rfl .n fun N => (O.fn fn77 (evs.l rfl (kC_Z (by assumption)) (evs.l rfl (kI_Z rfl (by omega)) evs.nil)) (c_zint_Add R (ival (q.1, q.2))))
          | n_ + 6, h_ => simp at h_
        refine WP.t .n (O.stW (l := kC) (u := M - 1) 0 rfl rfl rfl ty31 rfl (VP.le_refl _)) ?_
        refine WP.t .n (O.stW (l := kC) (u := R + (ival (q.1, q.2))) 1 rfl rfl rfl ty31 rfl (VP.le_refl _)) ?_
        refine WP.nil ?_
        refine QE.next ?_
        refine CW.seq ?_
        refine CW.any (by kernel_rfl) ?_
        refine DA.go 0 [1] (by kernel_rfl) ⟨?_, ⟨?_, trivial⟩⟩
        · refine DO.s rfl .n (O.ld rfl (mem_at 0 rfl) (Lens.id _) ty31 rfl) ?_
          refine DA.go 1 [2] (by kernel_rfl) ⟨?_, ⟨?_, trivial⟩⟩
          · refine DO.s rfl .n (O.ld rfl (mem_at 1 rfl) (Lens.id _) ty31 rfl) ?_
            refine DA.go 2 [] (by kernel_rfl) ⟨?_, trivial⟩
            refine DO.t rfl .n (O.stW (l := kC) (u := M - 1) 3 rfl rfl rfl ty31 rfl (VP.le_refl _)) ?_
            refine DA.go 3 [] (by kernel_rfl) ⟨?_, trivial⟩
            refine DO.t rfl .n (O.stW (l := kC) (u := R + (ival (q.1, q.2))) 2 rfl rfl rfl ty31 rfl (VP.le_refl _)) ?_
            refine DA.go 4 [] (by kernel_rfl) ⟨?_, trivial⟩
            refine DO.s rfl .n (O.asg rfl) ?_
            refine DA.nil (by kernel_rfl) ?_
            refine QE.next ?_
            refine CW.ret ?_
            have hf := floor_2 hx hl h5 (by rw [← q_v]; exact h_t45)
            refine ST.obtold 3 rfl (OB.box_eq (y := (x.fdiv y)) hf.1) ?_
            refine ST.obtold 2 rfl (OB.box_eq (y := (if y = 0 then 0 else x.fmod y)) (by rw [if_neg hy, q_v]; exact hf.2)) ?_
            refine ST.told 6 rfl (is_eq (y := (if y = 0 then 11 else 0)) (by rw [if_neg hy])) ?_
            exact QE.done (.inl rfl) rfl (ResOk.c rfl (mem_at 3 rfl) ty31 (ResOk.c rfl (mem_at 2 rfl) ty31 (ResOk.t rfl ResOk.nil))) (OImp.sub (List.nil_sublist _)) ⟨rfl, rfl⟩
          · refine DO.t rfl .n (O.stW (l := kC) (u := M - 1) 3 rfl rfl rfl ty31 rfl (VP.le_refl _)) ?_
            refine DA.go 1 [] (by kernel_rfl) ⟨?_, trivial⟩
            refine DO.s rfl .n (O.ld rfl (mem_at 1 rfl) (Lens.id _) ty31 rfl) ?_
            refine DA.go 3 [] (by kernel_rfl) ⟨?_, trivial⟩
            refine DO.t rfl .n (O.stW (l := kC) (u := R + (ival (q.1, q.2))) 2 rfl rfl rfl ty31 rfl (VP.le_refl _)) ?_
            refine DA.go 4 [] (by kernel_rfl) ⟨?_, trivial⟩
            refine DO.s rfl .n (O.asg rfl) ?_
            refine DA.nil (by kernel_rfl) ?_
            refine QE.next ?_
            refine CW.ret ?_
            have hf := floor_2 hx hl h5 (by rw [← q_v]; exact h_t45)
            refine ST.obtold 3 rfl (OB.box_eq (y := (x.fdiv y)) hf.1) ?_
            refine ST.obtold 2 rfl (OB.box_eq (y := (if y = 0 then 0 else x.fmod y)) (by rw [if_neg hy, q_v]; exact hf.2)) ?_
            refine ST.told 6 rfl (is_eq (y := (if y = 0 then 11 else 0)) (by rw [if_neg hy])) ?_
            exact QE.done (.inl rfl) rfl (ResOk.c rfl (mem_at 3 rfl) ty31 (ResOk.c rfl (mem_at 2 rfl) ty31 (ResOk.t rfl ResOk.nil))) (OImp.sub (List.nil_sublist _)) ⟨rfl, rfl⟩
        · refine DO.s rfl .n (O.ld rfl (mem_at 1 rfl) (Lens.id _) ty31 rfl) ?_
          refine DA.go 0 [] (by kernel_rfl) ⟨?_, trivial⟩
          refine DO.s rfl .n (O.ld rfl (mem_at 0 rfl) (Lens.id _) ty31 rfl) ?_
          refine DA.go 2 [] (by kernel_rfl) ⟨?_, trivial⟩
          refine DO.t rfl .n (O.stW (l := kC) (u := M - 1) 3 rfl rfl rfl ty31 rfl (VP.le_refl _)) ?_
          refine DA.go 3 [] (by kernel_rfl) ⟨?_, trivial⟩
          refine DO.t rfl .n (O.stW (l := kC) (u := R + (ival (q.1, q.2))) 2 rfl rfl rfl ty31 rfl (VP.le_refl _)) ?_
          refine DA.go 4 [] (by kernel_rfl) ⟨?_, trivial⟩
          refine DO.s rfl .n (O.asg rfl) ?_
          refine DA.nil (by kernel_rfl) ?_
          refine QE.next ?_
          refine CW.ret ?_
          have hf := floor_2 hx hl h5 (by rw [← q_v]; exact h_t45)
          refine ST.obtold 3 rfl (OB.box_eq (y := (x.fdiv y)) hf.1) ?_
          refine ST.obtold 2 rfl (OB.box_eq (y := (if y = 0 then 0 else x.fmod y)) (by rw [if_neg hy, q_v]; exact hf.2)) ?_
          refine ST.told 6 rfl (is_eq (y := (if y = 0 then 11 else 0)) (by rw [if_neg hy])) ?_
          exact QE.done (.inl rfl) rfl (ResOk.c rfl (mem_at 3 rfl) ty31 (ResOk.c rfl (mem_at 2 rfl) ty31 (ResOk.t rfl ResOk.nil))) (OImp.sub (List.nil_sublist _)) ⟨rfl, rfl⟩
      · refine CW.skip ?_
        refine QE.next ?_
        refine CW.seq ?_
        refine CW.any (by kernel_rfl) ?_
        refine DA.go 0 [1] (by kernel_rfl) ⟨?_, ⟨?_, trivial⟩⟩
        · refine DO.s rfl .n (O.ld rfl (mem_at 0 rfl) (Lens.id _) ty31 rfl) ?_
          refine DA.go 1 [2] (by kernel_rfl) ⟨?_, ⟨?_, trivial⟩⟩
          · refine DO.s rfl .n (O.ld rfl (mem_at 1 rfl) (Lens.id _) ty31 rfl) ?_
            refine DA.go 2 [] (by kernel_rfl) ⟨?_, trivial⟩
            refine DO.t rfl .n (O.stW (l := kC) (u := M) 3 rfl rfl rfl ty31 rfl (VP.le_refl _)) ?_
            refine DA.go 3 [] (by kernel_rfl) ⟨?_, trivial⟩
            refine DO.t rfl .n (O.stW (l := kC) (u := R) 2 rfl rfl rfl ty31 rfl (VP.le_refl _)) ?_
            refine DA.go 4 [] (by kernel_rfl) ⟨?_, trivial⟩
            refine DO.s rfl .n (O.asg rfl) ?_
            refine DA.nil (by kernel_rfl) ?_
            refine QE.next ?_
            refine CW.ret ?_
            have hf := floor_1 hx hl h5 (by rw [← q_v]; exact h_t45)
            refine ST.obtold 3 rfl (OB.box_eq (y := (x.fdiv y)) hf.1) ?_
            refine ST.obtold 2 rfl (OB.box_eq (y := (if y = 0 then 0 else x.fmod y)) (by rw [if_neg hy]; exact hf.2)) ?_
            refine ST.told 6 rfl (is_eq (y := (if y = 0 then 11 else 0)) (by rw [if_neg hy])) ?_
            exact QE.done (.inl rfl) rfl (ResOk.c rfl (mem_at 3 rfl) ty31 (ResOk.c rfl (mem_at 2 rfl) ty31 (ResOk.t rfl ResOk.nil))) (OImp.sub (List.nil_sublist _)) ⟨rfl, rfl⟩
          · refine DO.t rfl .n (O.stW (l := kC) (u := M) 3 rfl rfl rfl ty31 rfl (VP.le_refl _)) ?_
            refine DA.go 1 [] (by kernel_rfl) ⟨?_, trivial⟩
            refine DO.s rfl .n (O.ld rfl (mem_at 1 rfl) (Lens.id _) ty31 rfl) ?_
            refine DA.go 3 [] (by kernel_rfl) ⟨?_, trivial⟩
            refine DO.t rfl .n (O.stW (l := kC) (u := R) 2 rfl rfl rfl ty31 rfl (VP.le_refl _)) ?_
            refine DA.go 4 [] (by kernel_rfl) ⟨?_, trivial⟩
            refine DO.s rfl .n (O.asg rfl) ?_
            refine DA.nil (by kernel_rfl) ?_
            refine QE.next ?_
            refine CW.ret ?_
            have hf := floor_1 hx hl h5 (by rw [← q_v]; exact h_t45)
            refine ST.obtold 3 rfl (OB.box_eq (y := (x.fdiv y)) hf.1) ?_
            refine ST.obtold 2 rfl (OB.box_eq (y := (if y = 0 then 0 else x.fmod y)) (by rw [if_neg hy]; exact hf.2)) ?_
            refine ST.told 6 rfl (is_eq (y := (if y = 0 then 11 else 0)) (by rw [if_neg hy])) ?_
            exact QE.done (.inl rfl) rfl (ResOk.c rfl (mem_at 3 rfl) ty31 (ResOk.c rfl (mem_at 2 rfl) ty31 (ResOk.t rfl ResOk.nil))) (OImp.sub (List.nil_sublist _)) ⟨rfl, rfl⟩
        · refine DO.s rfl .n (O.ld rfl (mem_at 1 rfl) (Lens.id _) ty31 rfl) ?_
          refine DA.go 0 [] (by kernel_rfl) ⟨?_, trivial⟩
          refine DO.s rfl .n (O.ld rfl (mem_at 0 rfl) (Lens.id _) ty31 rfl) ?_
          refine DA.go 2 [] (by kernel_rfl) ⟨?_, trivial⟩
          refine DO.t rfl .n (O.stW (l := kC) (u := M) 3 rfl rfl rfl ty31 rfl (VP.le_refl _)) ?_
          refine DA.go 3 [] (by kernel_rfl) ⟨?_, trivial⟩
          refine DO.t rfl .n (O.stW (l := kC) (u := R) 2 rfl rfl rfl ty31 rfl (VP.le_refl _)) ?_
          refine DA.go 4 [] (by kernel_rfl) ⟨?_, trivial⟩
          refine DO.s rfl .n (O.asg rfl) ?_
          refine DA.nil (by kernel_rfl) ?_
          refine QE.next ?_
          refine CW.ret ?_
          have hf := floor_1 hx hl h5 (by rw [← q_v]; exact h_t45)
          refine ST.obtold 3 rfl (OB.box_eq (y := (x.fdiv y)) hf.1) ?_
          refine ST.obtold 2 rfl (OB.box_eq (y := (if y = 0 then 0 else x.fmod y)) (by rw [if_neg hy]; exact hf.2)) ?_
          refine ST.told 6 rfl (is_eq (y := (if y = 0 then 11 else 0)) (by rw [if_neg hy])) ?_
          exact QE.done (.inl rfl) rfl (ResOk.c rfl (mem_at 3 rfl) ty31 (ResOk.c rfl (mem_at 2 rfl) ty31 (ResOk.t rfl ResOk.nil))) (OImp.sub (List.nil_sublist _)) ⟨rfl, rfl⟩
    · refine CW.draw (Γ := [.fr (kC.is R), .fr ((kInt .i64).is R.sign), .fr (kBool.is false), .fr (kBool.is false), .fr VP.tt, .fr VP.tt, .fr VP.tt, .fr VP.tt, .fr VP.tt, .fr (kBool.is false)]) (lates := [false, false, false, false, false, false, false, false, false, false]) (by kernel_rfl) (Chk.of rfl (by kernel_rfl) rfl) (fun _ _ _ _ _ h => h) (fun q_ x_ h_ => ?_) (fun σ => ?_)
      · match q_, h_ with
        | 0, h_ => cases h_; exact Ob.f rfl .n fun N => (O.ld rfl (mem_app N (mem_at 1 rfl)) (Lens.id _) ty31 rfl)
        | 1, h_ => cases h_; exact Ob.f rfl .n fun N => (O.fn fn80 (evs.l rfl (kC_Z (by assumption)) evs.nil) (c_zint_Sign R))
        | 2, h_ => cases h_; exact Ob.f rfl .n fun N => (OpOk.le (O.ne rfl rfl) (is_eq (by simp at h5; simp [h5])))
        | 3, h_ => cases h_; exact Ob.f rfl .n fun N => (O.mv rfl)
        | 4, h_ => cases h_; exact Ob.k (b := false) rfl rfl rfl
        | 5, h_ => cases h_; exact Ob.k (b := false) rfl rfl rfl
        | 6, h_ => cases h_; exact Ob.k (b := false) rfl rfl rfl
        | 7, h_ => cases h_; exact Ob.k (b := false) rfl rfl rfl
        | 8, h_ => cases h_; exact Ob.k (b := false) rfl rfl rfl
        | 9, h_ => cases h_; exact Ob.f rfl .n fun N => (O.pickF rfl rfl)
        | n_ + 10, h_ => simp at h_
      refine WP.nil ?_
      refine QE.next ?_
      refine CW.condF rfl ?_
      refine CW.skip ?_
      refine QE.next ?_
      refine CW.seq ?_
      refine CW.any (by kernel_rfl) ?_
      refine DA.go 0 [1] (by kernel_rfl) ⟨?_, ⟨?_, trivial⟩⟩
      · refine DO.s rfl .n (O.ld rfl (mem_at 0 rfl) (Lens.id _) ty31 rfl) ?_
        refine DA.go 1 [2] (by kernel_rfl) ⟨?_, ⟨?_, trivial⟩⟩
        · refine DO.s rfl .n (O.ld rfl (mem_at 1 rfl) (Lens.id _) ty31 rfl) ?_
          refine DA.go 2 [] (by kernel_rfl) ⟨?_, trivial⟩
          refine DO.t rfl .n (O.stW (l := kC) (u := M) 3 rfl rfl rfl ty31 rfl (VP.le_refl _)) ?_
          refine DA.go 3 [] (by kernel_rfl) ⟨?_, trivial⟩
          refine DO.t rfl .n (O.stW (l := kC) (u := R) 2 rfl rfl rfl ty31 rfl (VP.le_refl _)) ?_
          refine DA.go 4 [] (by kernel_rfl) ⟨?_, trivial⟩
          refine DO.s rfl .n (O.asg rfl) ?_
          refine DA.nil (by kernel_rfl) ?_
          refine QE.next ?_
          refine CW.ret ?_
          have hf := floor_0 hx hl h5
          refine ST.obtold 3 rfl (OB.box_eq (y := (x.fdiv y)) hf.1) ?_
          refine ST.obtold 2 rfl (OB.box_eq (y := (if y = 0 then 0 else x.fmod y)) (by rw [if_neg hy]; exact hf.2)) ?_
          refine ST.told 6 rfl (is_eq (y := (if y = 0 then 11 else 0)) (by rw [if_neg hy])) ?_
          exact QE.done (.inl rfl) rfl (ResOk.c rfl (mem_at 3 rfl) ty31 (ResOk.c rfl (mem_at 2 rfl) ty31 (ResOk.t rfl ResOk.nil))) (OImp.sub (List.nil_sublist _)) ⟨rfl, rfl⟩
        · refine DO.t rfl .n (O.stW (l := kC) (u := M) 3 rfl rfl rfl ty31 rfl (VP.le_refl _)) ?_
          refine DA.go 1 [] (by kernel_rfl) ⟨?_, trivial⟩
          refine DO.s rfl .n (O.ld rfl (mem_at 1 rfl) (Lens.id _) ty31 rfl) ?_
          refine DA.go 3 [] (by kernel_rfl) ⟨?_, trivial⟩
          refine DO.t rfl .n (O.stW (l := kC) (u := R) 2 rfl rfl rfl ty31 rfl (VP.le_refl _)) ?_
          refine DA.go 4 [] (by kernel_rfl) ⟨?_, trivial⟩
          refine DO.s rfl .n (O.asg rfl) ?_
          refine DA.nil (by kernel_rfl) ?_
          refine QE.next ?_
          refine CW.ret ?_
          have hf := floor_0 hx hl h5
          refine ST.obtold 3 rfl (OB.box_eq (y := (x.fdiv y)) hf.1) ?_
          refine ST.obtold 2 rfl (OB.box_eq (y := (if y = 0 then 0 else x.fmod y)) (by rw [if_neg hy]; exact hf.2)) ?_
          refine ST.told 6 rfl (is_eq (y := (if y = 0 then 11 else 0)) (by rw [if_neg hy])) ?_
          exact QE.done (.inl rfl) rfl (ResOk.c rfl (mem_at 3 rfl) ty31 (ResOk.c rfl (mem_at 2 rfl) ty31 (ResOk.t rfl ResOk.nil))) (OImp.sub (List.nil_sublist _)) ⟨rfl, rfl⟩
      · refine DO.s rfl .n (O.ld rfl (mem_at 1 rfl) (Lens.id _) ty31 rfl) ?_
        refine DA.go 0 [] (by kernel_rfl) ⟨?_, trivial⟩
        refine DO.s rfl .n (O.ld rfl (mem_at 0 rfl) (Lens.id _) ty31 rfl) ?_
        refine DA.go 2 [] (by kernel_rfl) ⟨?_, trivial⟩
        refine DO.t rfl .n (O.stW (l := kC) (u := M) 3 rfl rfl rfl ty31 rfl (VP.le_refl _)) ?_
        refine DA.go 3 [] (by kernel_rfl) ⟨?_, trivial⟩
        refine DO.t rfl .n (O.stW (l := kC) (u := R) 2 rfl rfl rfl ty31 rfl (VP.le_refl _)) ?_
        refine DA.go 4 [] (by kernel_rfl) ⟨?_, trivial⟩
        refine DO.s rfl .n (O.asg rfl) ?_
        refine DA.nil (by kernel_rfl) ?_
        refine QE.next ?_
        refine CW.ret ?_
        have hf := floor_0 hx hl h5
        refine ST.obtold 3 rfl (OB.box_eq (y := (x.fdiv y)) hf.1) ?_
        refine ST.obtold 2 rfl (OB.box_eq (y := (if y = 0 then 0 else x.fmod y)) (by rw [if_neg hy]; exact hf.2)) ?_
        refine ST.told 6 rfl (is_eq (y := (if y = 0 then 11 else 0)) (by rw [if_neg hy])) ?_
        exact QE.done (.inl rfl) rfl (ResOk.c rfl (mem_at 3 rfl) ty31 (ResOk.c rfl (mem_at 2 rfl) ty31 (ResOk.t rfl ResOk.nil))) (OImp.sub (List.nil_sublist _)) ⟨rfl, rfl⟩

end Fw


/- What Exact of layer 2 answers. -/
set_option linter.unusedVariables false
set_option linter.unusedSimpArgs false
set_option exponentiation.threshold 70
namespace Fw
open Go Go.Proofs

end Fw


/- Rationals in lowest terms; the document's floor. -/
set_option linter.unusedVariables false
set_option linter.unusedSimpArgs false
set_option exponentiation.threshold 400
namespace Fw
open Go Go.Proofs

set_option maxRecDepth 20000 in
set_option maxHeartbeats 1000000 in
theorem c_ref02_Floor (x y : Int) (hy : y ≠ 0) : Fn Try.prog 89 [kZ.is x, kZ.is y] (VP.tup [kC.is (x.fdiv y), kC.is (x.fmod y)]) := by
  refine Con.enter Try.func89 rfl rfl fun m w => ?_
  refine ST.fact (i := 0) rfl kZ_sm fun hsx => ?_
  refine ST.fact (i := 1) rfl kZ_sm fun hsy => ?_
  refine ST.z 0 rfl fun p p_v p_n p_l => ?_
  refine ST.z 1 rfl fun q q_v q_n q_l => ?_
  refine CW.seq ?_
  refine CW.region ?_
  refine WP.bx .n rfl fun b1 => ?_
  refine WP.bx .n rfl fun b2 => ?_
  refine WP.al .n z31_C fun b3 => ?_
  refine WP.al .n z31_C fun b4 => ?_
  refine WP.nil ?_
  refine QE.next ?_
  refine CW.seq ?_
  refine CW.region ?_
  refine WP.s .n (O.fa rfl fld31_1 rfl) ?_
  refine WP.s .n (O.ld rfl (mem_at 3 rfl) (Lens.snd (Lens.id _)) ty29 rfl) ?_
  refine WP.s .n (O.fa rfl fld31_1 rfl) ?_
  refine WP.s .n (O.ld rfl (mem_at 2 rfl) (Lens.snd (Lens.id _)) ty29 rfl) ?_
  refine WP.s .n (O.fn fn162 (evs.c rfl (evs.c rfl evs.nil)) (c_ref01_Div p.2 q.2 (by omega) (by omega))) ?_
  refine WP.s .n (O.mv rfl) ?_
  refine WP.s .n (O.ext rfl rfl) ?_
  refine WP.s .n (O.ext rfl rfl) ?_
  refine WP.s .n (O.ext rfl rfl) ?_
  refine WP.s .n (O.asg rfl) ?_
  refine WP.s .n (O.asg rfl) ?_
  refine WP.s .n (O.asg rfl) ?_
  refine WP.nil ?_
  refine QE.next ?_
  refine CW.seq ?_
  refine CW.region ?_
  refine WP.s .n (O.fa rfl fld31_0 rfl) ?_
  refine WP.s .n (O.ld rfl (mem_at 3 rfl) (Lens.fst (Lens.id _)) ty4 rfl) ?_
  refine WP.s .n (O.fa rfl fld31_0 rfl) ?_
  refine WP.s .n (O.ld rfl (mem_at 2 rfl) (Lens.fst (Lens.id _)) ty4 rfl) ?_
  refine WP.s .n (O.neB rfl rfl Try.underlying4) ?_
  refine WP.s .n (O.mv rfl) ?_
  refine WP.s .n (O.fn fn152 (evs.c rfl (evs.c rfl evs.nil)) (c_ref02_made (decide (p.1 ≠ q.1)) (limbs (nval p.2 / nval q.2)))) ?_
  refine WP.al .n z31_C fun b5 => ?_
  refine WP.t .n (O.stW (l := kC) (u := ival ((decide (p.1 ≠ q.1)), (limbs (nval p.2 / nval q.2)))) 0 rfl rfl rfl ty31 rfl (VP.le_refl _)) ?_
  refine WP.nil ?_
  refine QE.next ?_
  refine CW.seq ?_
  have hq0 : nval q.2 ≠ 0 := fun h => by rw [← q_v] at hy; have := ival_abs q; rw [h] at this; exact hy (by omega)
  obtain ⟨M, hM⟩ : ∃ M, M = ival (decide (p.1 ≠ q.1), limbs (nval p.2 / nval q.2)) := ⟨_, rfl⟩
  obtain ⟨R, hR⟩ : ∃ R, R = ival (p.1, if nval q.2 = 0 then [] else limbs (nval p.2 % nval q.2)) := ⟨_, rfl⟩
  refine ST.obtold 0 rfl (OB.box_eq (y := M) hM.symm) ?_
  have hx : x = M * y + R := by rw [← p_v, ← q_v, hM, hR]; exact div_split hq0
  have hl : R.natAbs < y.natAbs := by rw [← q_v, hR]; exact rem_lt hq0
  have hsM : Sm M := Sm_le hsx (by rw [hM, ← p_v, ival_abs, ival_abs, nval_limbs]; exact Nat.div_le_self _ _)
  have hsR : Sm R := Sm_le hsx (by rw [hR, ← p_v, ival_abs, ival_abs, if_neg hq0, nval_limbs]; exact Nat.mod_le _ _)
  have hs1 : Sm 1 := Sm_lit (by decide)
  have hsMy : Sm (M * y) := Sm_le hsx (by rw [hM, ← p_v, ← q_v, Int.natAbs_mul, ival_abs, ival_abs, ival_abs, nval_limbs]; exact Nat.div_mul_le_self _ _)
  refine ST.obtold (b' := OB.box b2 31 kZ y) 3 rfl (OB.I_Z q_v q_n) ?_
  refine ST.obtold (b' := OB.box b1 31 kZ x) 4 rfl (OB.I_Z p_v p_n) ?_
  refine CW.draw (Γ := [.fr (kZ.is x), .fr (kC.is M), .fr (kZ.is y), .fr (kC.is (M * y)), .fr (kC.is (x - (M * y))), .al (fun b => OB.box b 31 kC 0)]) (lates := [false, false, false, false, false, false]) (by kernel_rfl) (Chk.of rfl (by kernel_rfl) rfl) (fun _ _ _ _ _ h => h) (fun q_ x_ h_ => ?_) (fun σ => ?_)
  · match q_, h_ with
    | 0, h_ => cases h_; exact Ob.f rfl .n fun N => (O.ld rfl (mem_app N (mem_at 4 rfl)) (Lens.id _) ty31 rfl)
    | 1, h_ => cases h_; exact Ob.f rfl .n fun N => (O.ld rfl (mem_app N (mem_at 0 rfl)) (Lens.id _) ty31 rfl)
    | 2, h_ => cases h_; exact Ob.f rfl .n fun N => (O.ld rfl (mem_app N (mem_at 3 rfl)) (Lens.id _) ty31 rfl)
    | 3, h_ => cases h_; exact Ob.f rfl .n fun N => (O.fn fn91 (evs.l rfl (kC_Z (by assumption)) (evs.c rfl evs.nil)) (c_ref02_Mul M y))
    | 4, h_ => cases h_; exact Ob.f rfl .n fun N => (O.fn fn90 (evs.c rfl (evs.l rfl (kC_Z (by assumption)) evs.nil)) (c_ref02_Sub x (M * y)))
    | 5, h_ => cases h_; exact Ob.a rfl z31_C
    | n_ + 6, h_ => simp at h_
  refine WP.t .n (O.stW (l := kC) (u := x - (M * y)) 0 rfl rfl rfl ty31 rfl (VP.le_refl _)) ?_
  refine WP.nil ?_
  refine QE.next ?_
  refine CW.seq ?_
  refine CW.seq ?_
  refine ST.obtold 0 rfl (OB.box_eq (y := R) (by rw [hx]; omega)) ?_
  by_cases h5 : R.sign ≠ 0
  · refine CW.draw (Γ := [.fr (kC.is R), .fr ((kInt .i64).is R.sign), .fr (kBool.is true), .fr (kBool.is true), .fr (kC.is R), .fr ((kInt .i64).is R.sign), .fr (kZ.is y), .fr ((kInt .i64).is y.sign), .fr (kBool.is (decide (R.sign ≠ y.sign))), .fr (kBool.is (decide (R.sign ≠ y.sign)))]) (lates := [false, false, false, false, false, false, false, false, false, false]) (by kernel_rfl) (Chk.of rfl (by kernel_rfl) rfl) (fun _ _ _ _ _ h => h) (fun q_ x_ h_ => ?_) (fun σ => ?_)
    · match q_, h_ with
      | 0, h_ => cases h_; exact Ob.f rfl .n fun N => (O.ld rfl (mem_app N (mem_at 0 rfl)) (Lens.id _) ty31 rfl)
      | 1, h_ => cases h_; exact Ob.f rfl .n fun N => (O.fn fn83 (evs.l rfl (kC_Z (by assumption)) evs.nil) (c_ref02_Sign R))
      | 2, h_ => cases h_; exact Ob.f rfl .n fun N => (OpOk.le (O.ne rfl rfl) (is_eq (by simp [h5])))
      | 3, h_ => cases h_; exact Ob.f rfl .n fun N => (O.mv rfl)
      | 4, h_ => cases h_; exact Ob.f rfl (.g rfl rfl) fun N => (O.ld rfl (mem_app N (mem_at 0 rfl)) (Lens.id _) ty31 rfl)
      | 5, h_ => cases h_; exact Ob.f rfl (.g rfl rfl) fun N => (O.fn fn83 (evs.l rfl (kC_Z (by assumption)) evs.nil) (c_ref02_Sign R))
      | 6, h_ => cases h_; exact Ob.f rfl (.g rfl rfl) fun N => (O.ld rfl (mem_app N (mem_at 4 rfl)) (Lens.id _) ty31 rfl)
      | 7, h_ => cases h_; exact Ob.f rfl (.g rfl rfl) fun N => (O.fn fn83 (evs.c rfl evs.nil) (c_ref02_Sign y))
      | 8, h_ => cases h_; exact Ob.f rfl (.g rfl rfl) fun N => (O.ne rfl rfl)
      | 9, h_ => cases h_; exact Ob.f rfl .n fun N => (O.pickT rfl rfl)
      | n_ + 10, h_ => simp at h_
    refine WP.nil ?_
    refine QE.next ?_
    refine CW.condD rfl (fun h_t41 => ?_) (fun h_t41 => ?_)
    · refine CW.seq ?_
      refine CW.draw (Γ := [.fr (kC.is M), .fr (kC.is 1), .fr (kC.is (M - 1))]) (lates := [false, false, false]) (by kernel_rfl) (Chk.of rfl (by kernel_rfl) rfl) (fun _ _ _ _ _ h => h) (fun q_ x_ h_ => ?_) (fun σ => ?_)
      · match q_, h_ with
        | 0, h_ => cases h_; exact Ob.f rfl .n fun N => (O.ld rfl (mem_app N (mem_at 1 rfl)) (Lens.id _) ty31 rfl)
        | 1, h_ => cases h_; exact Ob.f rfl .n fun N => (O.fn fn78 (evs.l rfl (i64_int (by omega)) evs.nil) (c_ref02_Of 1))
        | 2, h_ => cases h_; exact Ob.f rfl .n fun N => (O.fn fn90 (evs.l rfl (kC_Z (by assumption)) (evs.l rfl (kC_Z (by assumption)) evs.nil)) (c_ref02_Sub M 1))
        | n_ + 3, h_ => simp at h_
      refine WP.t .n (O.stW (l := kC) (u := M - 1) 1 rfl rfl rfl ty31 rfl (VP.le_refl _)) ?_
      refine WP.nil ?_
      refine QE.next ?_
      refine CW.region ?_
      refine WP.s .n (O.ld rfl (mem_at 0 rfl) (Lens.id _) ty31 rfl) ?_
      refine WP.s .n (O.ld rfl (mem_at 4 rfl) (Lens.id _) ty31 rfl) ?_
      refine WP.s .n (O.fn fn79 (evs.l rfl (kC_Z (by assumption)) (evs.c rfl evs.nil)) (c_ref02_Add R y)) ?_
      refine WP.t .n (O.stW (l := kC) (u := R + y) 0 rfl rfl rfl ty31 rfl (VP.le_refl _)) ?_
      refine WP.nil ?_
      refine QE.next ?_
      refine CW.seq ?_
      refine CW.any (by kernel_rfl) ?_
      refine DA.go 0 [1] (by kernel_rfl) ⟨?_, ⟨?_, trivial⟩⟩
      · refine DO.w rfl ?_
        refine WP.s .n (O.ld rfl (mem_at 1 rfl) (Lens.id _) ty31 rfl) ?_
        refine WP.nil ?_
        refine DO.nx ?_
        refine DA.go 1 [2] (by kernel_rfl) ⟨?_, ⟨?_, trivial⟩⟩
        · refine DO.w rfl ?_
          refine WP.s .n (O.ld rfl (mem_at 0 rfl) (Lens.id _) ty31 rfl) ?_
          refine WP.nil ?_
          refine DO.nx ?_
          refine DA.go 2 [] (by kernel_rfl) ⟨?_, trivial⟩
          refine DO.w rfl ?_
          refine WP.t .n (O.stW (l := kC) (u := M - 1) 3 rfl rfl rfl ty31 rfl (VP.le_refl _)) ?_
          refine WP.nil ?_
          refine DO.nx ?_
          refine DA.go 3 [] (by kernel_rfl) ⟨?_, trivial⟩
          refine DO.w rfl ?_
          refine WP.t .n (O.stW (l := kC) (u := R + y) 2 rfl rfl rfl ty31 rfl (VP.le_refl _)) ?_
          refine WP.nil ?_
          refine DO.nx ?_
          refine DA.nil (by kernel_rfl) ?_
          refine QE.next ?_
          refine CW.ret ?_
          have hf := floor_2 hx hl h5 (by first | assumption | omega)
          refine ST.obtold 3 rfl (OB.box_eq (y := (x.fdiv y)) hf.1) ?_
          refine ST.obtold 2 rfl (OB.box_eq (y := (x.fmod y)) hf.2) ?_
          exact QE.done (.inl rfl) rfl (ResOk.c rfl (mem_at 3 rfl) ty31 (ResOk.c rfl (mem_at 2 rfl) ty31 ResOk.nil)) (OImp.sub (List.nil_sublist _)) ⟨rfl, rfl⟩
        · refine DO.w rfl ?_
          refine WP.t .n (O.stW (l := kC) (u := M - 1) 3 rfl rfl rfl ty31 rfl (VP.le_refl _)) ?_
          refine WP.nil ?_
          refine DO.nx ?_
          refine DA.go 1 [] (by kernel_rfl) ⟨?_, trivial⟩
          refine DO.w rfl ?_
          refine WP.s .n (O.ld rfl (mem_at 0 rfl) (Lens.id _) ty31 rfl) ?_
          refine WP.nil ?_
          refine DO.nx ?_
          refine DA.go 3 [] (by kernel_rfl) ⟨?_, trivial⟩
          refine DO.w rfl ?_
          refine WP.t .n (O.stW (l := kC) (u := R + y) 2 rfl rfl rfl ty31 rfl (VP.le_refl _)) ?_
          refine WP.nil ?_
          refine DO.nx ?_
          refine DA.nil (by kernel_rfl) ?_
          refine QE.next ?_
          refine CW.ret ?_
          have hf := floor_2 hx hl h5 (by first | assumption | omega)
          refine ST.obtold 3 rfl (OB.box_eq (y := (x.fdiv y)) hf.1) ?_
          refine ST.obtold 2 rfl (OB.box_eq (y := (x.fmod y)) hf.2) ?_
          exact QE.done (.inl rfl) rfl (ResOk.c rfl (mem_at 3 rfl) ty31 (ResOk.c rfl (mem_at 2 rfl) ty31 ResOk.nil)) (OImp.sub (List.nil_sublist _)) ⟨rfl, rfl⟩
      · refine DO.w rfl ?_
        refine WP.s .n (O.ld rfl (mem_at 0 rfl) (Lens.id _) ty31 rfl) ?_
        refine WP.nil ?_
        refine DO.nx ?_
        refine DA.go 0 [] (by kernel_rfl) ⟨?_, trivial⟩
        refine DO.w rfl ?_
        refine WP.s .n (O.ld rfl (mem_at 1 rfl) (Lens.id _) ty31 rfl) ?_
        refine WP.nil ?_
        refine DO.nx ?_
        refine DA.go 2 [] (by kernel_rfl) ⟨?_, trivial⟩
        refine DO.w rfl ?_
        refine WP.t .n (O.stW (l := kC) (u := M - 1) 3 rfl rfl rfl ty31 rfl (VP.le_refl _)) ?_
        refine WP.nil ?_
        refine DO.nx ?_
        refine DA.go 3 [] (by kernel_rfl) ⟨?_, trivial⟩
        refine DO.w rfl ?_
        refine WP.t .n (O.stW (l := kC) (u := R + y) 2 rfl rfl rfl ty31 rfl (VP.le_refl _)) ?_
        refine WP.nil ?_
        refine DO.nx ?_
        refine DA.nil (by kernel_rfl) ?_
        refine QE.next ?_
        refine CW.ret ?_
        have hf := floor_2 hx hl h5 (by first | assumption | omega)
        refine ST.obtold 3 rfl (OB.box_eq (y := (x.fdiv y)) hf.1) ?_
        refine ST.obtold 2 rfl (OB.box_eq (y := (x.fmod y)) hf.2) ?_
        exact QE.done (.inl rfl) rfl (ResOk.c rfl (mem_at 3 rfl) ty31 (ResOk.c rfl (mem_at 2 rfl) ty31 ResOk.nil)) (OImp.sub (List.nil_sublist _)) ⟨rfl, rfl⟩
    · refine CW.skip ?_
      refine QE.next ?_
      refine CW.seq ?_
      refine CW.any (by kernel_rfl) ?_
      refine DA.go 0 [1] (by kernel_rfl) ⟨?_, ⟨?_, trivial⟩⟩
      · refine DO.w rfl ?_
        refine WP.s .n (O.ld rfl (mem_at 1 rfl) (Lens.id _) ty31 rfl) ?_
        refine WP.nil ?_
        refine DO.nx ?_
        refine DA.go 1 [2] (by kernel_rfl) ⟨?_, ⟨?_, trivial⟩⟩
        · refine DO.w rfl ?_
          refine WP.s .n (O.ld rfl (mem_at 0 rfl) (Lens.id _) ty31 rfl) ?_
          refine WP.nil ?_
          refine DO.nx ?_
          refine DA.go 2 [] (by kernel_rfl) ⟨?_, trivial⟩
          refine DO.w rfl ?_
          refine WP.t .n (O.stW (l := kC) (u := M) 3 rfl rfl rfl ty31 rfl (VP.le_refl _)) ?_
          refine WP.nil ?_
          refine DO.nx ?_
          refine DA.go 3 [] (by kernel_rfl) ⟨?_, trivial⟩
          refine DO.w rfl ?_
          refine WP.t .n (O.stW (l := kC) (u := R) 2 rfl rfl rfl ty31 rfl (VP.le_refl _)) ?_
          refine WP.nil ?_
          refine DO.nx ?_
          refine DA.nil (by kernel_rfl) ?_
          refine QE.next ?_
          refine CW.ret ?_
          have hf := floor_1 hx hl h5 (by first | assumption | omega)
          refine ST.obtold 3 rfl (OB.box_eq (y := (x.fdiv y)) hf.1) ?_
          refine ST.obtold 2 rfl (OB.box_eq (y := (x.fmod y)) hf.2) ?_
          exact QE.done (.inl rfl) rfl (ResOk.c rfl (mem_at 3 rfl) ty31 (ResOk.c rfl (mem_at 2 rfl) ty31 ResOk.nil)) (OImp.sub (List.nil_sublist _)) ⟨rfl, rfl⟩
        · refine DO.w rfl ?_
          refine WP.t .n (O.stW (l := kC) (u := M) 3 rfl rfl rfl ty31 rfl (VP.le_refl _)) ?_
          refine WP.nil ?_
          refine DO.nx ?_
          refine DA.go 1 [] (by kernel_rfl) ⟨?_, trivial⟩
          refine DO.w rfl ?_
          refine WP.s .n (O.ld rfl (mem_at 0 rfl) (Lens.id _) ty31 rfl) ?_
          refine WP.nil ?_
          refine DO.nx ?_
          refine DA.go 3 [] (by kernel_rfl) ⟨?_, trivial⟩
          refine DO.w rfl ?_
          refine WP.t .n (O.stW (l := kC) (u := R) 2 rfl rfl rfl ty31 rfl (VP.le_refl _)) ?_
          refine WP.nil ?_
          refine DO.nx ?_
          refine DA.nil (by kernel_rfl) ?_
          refine QE.next ?_
          refine CW.ret ?_
          have hf := floor_1 hx hl h5 (by first | assumption | omega)
          refine ST.obtold 3 rfl (OB.box_eq (y := (x.fdiv y)) hf.1) ?_
          refine ST.obtold 2 rfl (OB.box_eq (y := (x.fmod y)) hf.2) ?_
          exact QE.done (.inl rfl) rfl (ResOk.c rfl (mem_at 3 rfl) ty31 (ResOk.c rfl (mem_at 2 rfl) ty31 ResOk.nil)) (OImp.sub (List.nil_sublist _)) ⟨rfl, rfl⟩
      · refine DO.w rfl ?_
        refine WP.s .n (O.ld rfl (mem_at 0 rfl) (Lens.id _) ty31 rfl) ?_
        refine WP.nil ?_
        refine DO.nx ?_
        refine DA.go 0 [] (by kernel_rfl) ⟨?_, trivial⟩
        refine DO.w rfl ?_
        refine WP.s .n (O.ld rfl (mem_at 1 rfl) (Lens.id _) ty31 rfl) ?_
        refine WP.nil ?_
        refine DO.nx ?_
        refine DA.go 2 [] (by kernel_rfl) ⟨?_, trivial⟩
        refine DO.w rfl ?_
        refine WP.t .n (O.stW (l := kC) (u := M) 3 rfl rfl rfl ty31 rfl (VP.le_refl _)) ?_
        refine WP.nil ?_
        refine DO.nx ?_
        refine DA.go 3 [] (by kernel_rfl) ⟨?_, trivial⟩
        refine DO.w rfl ?_
        refine WP.t .n (O.stW (l := kC) (u := R) 2 rfl rfl rfl ty31 rfl (VP.le_refl _)) ?_
        refine WP.nil ?_
        refine DO.nx ?_
        refine DA.nil (by kernel_rfl) ?_
        refine QE.next ?_
        refine CW.ret ?_
        have hf := floor_1 hx hl h5 (by first | assumption | omega)
        refine ST.obtold 3 rfl (OB.box_eq (y := (x.fdiv y)) hf.1) ?_
        refine ST.obtold 2 rfl (OB.box_eq (y := (x.fmod y)) hf.2) ?_
        exact QE.done (.inl rfl) rfl (ResOk.c rfl (mem_at 3 rfl) ty31 (ResOk.c rfl (mem_at 2 rfl) ty31 ResOk.nil)) (OImp.sub (List.nil_sublist _)) ⟨rfl, rfl⟩
  · refine CW.draw (Γ := [.fr (kC.is R), .fr ((kInt .i64).is R.sign), .fr (kBool.is false), .fr (kBool.is false), .fr (VP.ex undef), .fr (VP.ex undef), .fr (VP.ex undef), .fr (VP.ex undef), .fr (VP.ex undef), .fr (kBool.is false)]) (lates := [false, false, false, false, false, false, false, false, false, false]) (by kernel_rfl) (Chk.of rfl (by kernel_rfl) rfl) (fun _ _ _ _ _ h => h) (fun q_ x_ h_ => ?_) (fun σ => ?_)
    · match q_, h_ with
      | 0, h_ => cases h_; exact Ob.f rfl .n fun N => (O.ld rfl (mem_app N (mem_at 0 rfl)) (Lens.id _) ty31 rfl)
      | 1, h_ => cases h_; exact Ob.f rfl .n fun N => (O.fn fn83 (evs.l rfl (kC_Z (by assumption)) evs.nil) (c_ref02_Sign R))
      | 2, h_ => cases h_; exact Ob.f rfl .n fun N => (OpOk.le (O.ne rfl rfl) (is_eq (by simp at h5; simp [h5])))
      | 3, h_ => cases h_; exact Ob.f rfl .n fun N => (O.mv rfl)
      | 4, h_ => cases h_; exact Ob.ku (b := false) rfl rfl rfl
      | 5, h_ => cases h_; exact Ob.ku (b := false) rfl rfl rfl
      | 6, h_ => cases h_; exact Ob.ku (b := false) rfl rfl rfl
      | 7, h_ => cases h_; exact Ob.ku (b := false) rfl rfl rfl
      | 8, h_ => cases h_; exact Ob.ku (b := false) rfl rfl rfl
      | 9, h_ => cases h_; exact Ob.f rfl .n fun N => (O.pickF rfl rfl)
      | n_ + 10, h_ => simp at h_
    refine WP.nil ?_
    refine QE.next ?_
    refine CW.condF rfl ?_
    refine CW.skip ?_
    refine QE.next ?_
    refine CW.seq ?_
    refine CW.any (by kernel_rfl) ?_
    refine DA.go 0 [1] (by kernel_rfl) ⟨?_, ⟨?_, trivial⟩⟩
    · refine DO.w rfl ?_
      refine WP.s .n (O.ld rfl (mem_at 1 rfl) (Lens.id _) ty31 rfl) ?_
      refine WP.nil ?_
      refine DO.nx ?_
      refine DA.go 1 [2] (by kernel_rfl) ⟨?_, ⟨?_, trivial⟩⟩
      · refine DO.w rfl ?_
        refine WP.s .n (O.ld rfl (mem_at 0 rfl) (Lens.id _) ty31 rfl) ?_
        refine WP.nil ?_
        refine DO.nx ?_
        refine DA.go 2 [] (by kernel_rfl) ⟨?_, trivial⟩
        refine DO.w rfl ?_
        refine WP.t .n (O.stW (l := kC) (u := M) 3 rfl rfl rfl ty31 rfl (VP.le_refl _)) ?_
        refine WP.nil ?_
        refine DO.nx ?_
        refine DA.go 3 [] (by kernel_rfl) ⟨?_, trivial⟩
        refine DO.w rfl ?_
        refine WP.t .n (O.stW (l := kC) (u := R) 2 rfl rfl rfl ty31 rfl (VP.le_refl _)) ?_
        refine WP.nil ?_
        refine DO.nx ?_
        refine DA.nil (by kernel_rfl) ?_
        refine QE.next ?_
        refine CW.ret ?_
        have hf := floor_0 hx hl h5
        refine ST.obtold 3 rfl (OB.box_eq (y := (x.fdiv y)) hf.1) ?_
        refine ST.obtold 2 rfl (OB.box_eq (y := (x.fmod y)) hf.2) ?_
        exact QE.done (.inl rfl) rfl (ResOk.c rfl (mem_at 3 rfl) ty31 (ResOk.c rfl (mem_at 2 rfl) ty31 ResOk.nil)) (OImp.sub (List.nil_sublist _)) ⟨rfl, rfl⟩
      · refine DO.w rfl ?_
        refine WP.t .n (O.stW (l := kC) (u := M) 3 rfl rfl rfl ty31 rfl (VP.le_refl _)) ?_
        refine WP.nil ?_
        refine DO.nx ?_
        refine DA.go 1 [] (by kernel_rfl) ⟨?_, trivial⟩
        refine DO.w rfl ?_
        refine WP.s .n (O.ld rfl (mem_at 0 rfl) (Lens.id _) ty31 rfl) ?_
        refine WP.nil ?_
        refine DO.nx ?_
        refine DA.go 3 [] (by kernel_rfl) ⟨?_, trivial⟩
        refine DO.w rfl ?_
        refine WP.t .n (O.stW (l := kC) (u := R) 2 rfl rfl rfl ty31 rfl (VP.le_refl _)) ?_
        refine WP.nil ?_
        refine DO.nx ?_
        refine DA.nil (by kernel_rfl) ?_
        refine QE.next ?_
        refine CW.ret ?_
        have hf := floor_0 hx hl h5
        refine ST.obtold 3 rfl (OB.box_eq (y := (x.fdiv y)) hf.1) ?_
        refine ST.obtold 2 rfl (OB.box_eq (y := (x.fmod y)) hf.2) ?_
        exact QE.done (.inl rfl) rfl (ResOk.c rfl (mem_at 3 rfl) ty31 (ResOk.c rfl (mem_at 2 rfl) ty31 ResOk.nil)) (OImp.sub (List.nil_sublist _)) ⟨rfl, rfl⟩
    · refine DO.w rfl ?_
      refine WP.s .n (O.ld rfl (mem_at 0 rfl) (Lens.id _) ty31 rfl) ?_
      refine WP.nil ?_
      refine DO.nx ?_
      refine DA.go 0 [] (by kernel_rfl) ⟨?_, trivial⟩
      refine DO.w rfl ?_
      refine WP.s .n (O.ld rfl (mem_at 1 rfl) (Lens.id _) ty31 rfl) ?_
      refine WP.nil ?_
      refine DO.nx ?_
      refine DA.go 2 [] (by kernel_rfl) ⟨?_, trivial⟩
      refine DO.w rfl ?_
      refine WP.t .n (O.stW (l := kC) (u := M) 3 rfl rfl rfl ty31 rfl (VP.le_refl _)) ?_
      refine WP.nil ?_
      refine DO.nx ?_
      refine DA.go 3 [] (by kernel_rfl) ⟨?_, trivial⟩
      refine DO.w rfl ?_
      refine WP.t .n (O.stW (l := kC) (u := R) 2 rfl rfl rfl ty31 rfl (VP.le_refl _)) ?_
      refine WP.nil ?_
      refine DO.nx ?_
      refine DA.nil (by kernel_rfl) ?_
      refine QE.next ?_
      refine CW.ret ?_
      have hf := floor_0 hx hl h5
      refine ST.obtold 3 rfl (OB.box_eq (y := (x.fdiv y)) hf.1) ?_
      refine ST.obtold 2 rfl (OB.box_eq (y := (x.fmod y)) hf.2) ?_
      exact QE.done (.inl rfl) rfl (ResOk.c rfl (mem_at 3 rfl) ty31 (ResOk.c rfl (mem_at 2 rfl) ty31 ResOk.nil)) (OImp.sub (List.nil_sublist _)) ⟨rfl, rfl⟩

set_option maxRecDepth 20000 in
set_option maxHeartbeats 1000000 in
theorem c_ref03_Make (n d : Int) (hd : d ≠ 0) : Fn Try.prog 99 [kZ.is n, kZ.is d] ((kPair kC kC).is (rmk n d)) := by
  refine Con.enter Try.func99 rfl rfl fun m w => ?_
  refine ST.fact (i := 0) rfl kZ_sm fun hsn => ?_
  refine ST.fact (i := 1) rfl kZ_sm fun hsd => ?_
  refine CW.seq ?_
  refine CW.region ?_
  refine WP.bx .n rfl fun b1 => ?_
  refine WP.bx .n rfl fun b2 => ?_
  refine WP.al .n z60_pr_C_C_ fun b3 => ?_
  refine WP.nil ?_
  refine QE.next ?_
  refine CW.seq ?_
  refine CW.region ?_
  refine WP.s .n (O.ld rfl (mem_at 2 rfl) (Lens.id _) ty31 rfl) ?_
  refine WP.s .n (O.fn fn92 (evs.c rfl evs.nil) (c_ref02_Norm n)) ?_
  refine WP.al .n z31_C fun b4 => ?_
  refine WP.t .n (O.stW (l := kC) (u := n) 0 rfl rfl rfl ty31 rfl (VP.le_refl _)) ?_
  refine WP.nil ?_
  refine QE.next ?_
  refine CW.seq ?_
  refine CW.region ?_
  refine WP.s .n (O.ld rfl (mem_at 2 rfl) (Lens.id _) ty31 rfl) ?_
  refine WP.s .n (O.fn fn92 (evs.c rfl evs.nil) (c_ref02_Norm d)) ?_
  refine WP.al .n z31_C fun b5 => ?_
  refine WP.t .n (O.stW (l := kC) (u := d) 0 rfl rfl rfl ty31 rfl (VP.le_refl _)) ?_
  refine WP.nil ?_
  refine QE.next ?_
  refine CW.cut2 (fun (n1 : Int) (d1 : Int) => n1 = n * d.sign ∧ d1 = (d.natAbs : Int) ∧ Sm n1 ∧ Sm d1) (fun (n1 : Int) (d1 : Int) => [(4, VP.ex (.pointer (some ⟨b3, 0, none⟩))), (5, VP.ex (.pointer (some ⟨b4, 0, none⟩))), (6, VP.ex (.pointer (some ⟨b5, 0, none⟩)))]) (fun (n1 : Int) (d1 : Int) => [OB.box b5 31 kC d1, OB.box b4 31 kC n1, OB.box b3 60 (kPair kC kC) (0, 0)]) ?_ ?_
  · refine CW.seq ?_
    refine CW.region ?_
    refine WP.s .n (O.ld rfl (mem_at 0 rfl) (Lens.id _) ty31 rfl) ?_
    refine WP.s .n (O.fn fn83 (evs.l rfl (kC_Z (by first | assumption | exact Sm_neg (by assumption))) evs.nil) (c_ref02_Sign d)) ?_
    refine WP.s .n (O.lt rfl rfl) ?_
    refine WP.nil ?_
    refine QE.next ?_
    refine CW.condD rfl (fun h_t20 => ?_) (fun h_t20 => ?_)
    · refine CW.seq ?_
      refine CW.region ?_
      refine WP.s .n (O.ld rfl (mem_at 1 rfl) (Lens.id _) ty31 rfl) ?_
      refine WP.s .n (O.fn fn93 (evs.l rfl (kC_Z (by first | assumption | exact Sm_neg (by assumption))) evs.nil) (c_ref02_Neg n)) ?_
      refine WP.t .n (O.stW (l := kC) (u := -n) 1 rfl rfl rfl ty31 rfl (VP.le_refl _)) ?_
      refine WP.nil ?_
      refine QE.next ?_
      refine CW.region ?_
      refine WP.s .n (O.ld rfl (mem_at 0 rfl) (Lens.id _) ty31 rfl) ?_
      refine WP.s .n (O.fn fn93 (evs.l rfl (kC_Z (by first | assumption | exact Sm_neg (by assumption))) evs.nil) (c_ref02_Neg d)) ?_
      refine WP.t .n (O.stW (l := kC) (u := -d) 0 rfl rfl rfl ty31 rfl (VP.le_refl _)) ?_
      refine WP.nil ?_
      exact QE.mid2 (-n) (-d) ⟨(mul_sign_neg (sgn_lt0 h_t20)).symm, by have := sgn_lt0 h_t20; omega, Sm_neg hsn, Sm_neg hsd⟩ (Imp.cons rfl (Imp.cons rfl (Imp.cons rfl Imp.nil))) (OImp.os (OS.keep (OS.keep (OS.keep (OS.skip (OS.skip OS.nil))))))
    · refine CW.skip ?_
      exact QE.mid2 n d ⟨(mul_sign_pos (by have := sgn_ge0 h_t20; omega)).symm, by have := sgn_ge0 h_t20; omega, hsn, hsd⟩ (Imp.cons rfl (Imp.cons rfl (Imp.cons rfl Imp.nil))) (OImp.os (OS.keep (OS.keep (OS.keep (OS.skip (OS.skip OS.nil))))))
  intro n1 d1 ⟨hn1, hd1, hs1, hs2⟩
  have hg : Nat.gcd (nval (canon n1).2) (nval (canon d1).2) = Int.gcd n d := by rw [canon_nval, canon_nval, ← gcd_sign hd, hn1, hd1]; rfl
  have hgn := gcd_ne (n := n) hd
  have hl1 := canon_len hs1
  have hl2 := canon_len hs2
  have hgl : (limbs (Nat.gcd (nval (canon n1).2) (nval (canon d1).2))).length ≤ 17179869184 := by rw [hg]; exact canon_len (z := ((Int.gcd n d : Nat) : Int)) (Sm_le hsd (gcd_le_abs hd))
  refine ST.obtold (b' := OB.box b5 31 kI ((canon d1).1, (canon d1).2)) 0 rfl OB.C_I ?_
  refine ST.obtold (b' := OB.box b4 31 kI ((canon n1).1, (canon n1).2)) 1 rfl OB.C_I ?_
  refine CW.seq ?_
  refine CW.region ?_
  refine WP.s .n (O.fa rfl fld31_1 rfl) ?_
  refine WP.s .n (O.ld rfl (mem_at 1 rfl) (Lens.snd (Lens.id _)) ty29 rfl) ?_
  refine WP.s .n (O.fa rfl fld31_1 rfl) ?_
  refine WP.s .n (O.ld rfl (mem_at 0 rfl) (Lens.snd (Lens.id _)) ty29 rfl) ?_
  refine WP.s .n (O.fn fn166 (evs.c rfl (evs.c rfl evs.nil)) (c_ref01_Gcd ((canon n1).2) ((canon d1).2) (by omega) (by omega))) ?_
  refine WP.s .n (O.asg rfl) ?_
  refine WP.nil ?_
  refine QE.next ?_
  refine CW.seq ?_
  refine CW.region ?_
  refine WP.s .n (O.fa rfl fld31_1 rfl) ?_
  refine WP.s .n (O.ld rfl (mem_at 1 rfl) (Lens.snd (Lens.id _)) ty29 rfl) ?_
  refine WP.s .n (O.mv rfl) ?_
  refine WP.s .n (O.fn fn162 (evs.c rfl (evs.c rfl evs.nil)) (c_ref01_Div ((canon n1).2) (limbs (Nat.gcd (nval ((canon n1).2)) (nval ((canon d1).2)))) (by omega) (by omega))) ?_
  refine WP.s .n (O.mv rfl) ?_
  refine WP.s .n (O.ext rfl rfl) ?_
  refine WP.s .n (O.ext rfl rfl) ?_
  refine WP.s .n (O.ext rfl rfl) ?_
  refine WP.s .n (O.asg rfl) ?_
  refine WP.s .n (O.asg rfl) ?_
  refine WP.s .n (O.asg rfl) ?_
  refine WP.nil ?_
  refine QE.next ?_
  refine CW.seq ?_
  refine ST.told 8 rfl (is_eq (y := (limbs (n1.natAbs / Int.gcd n d))) (by rw [nval_limbs, hg, canon_nval])) ?_
  have hlx : (limbs (n1.natAbs / Int.gcd n d)).length ≤ 17179869184 := Nat.le_trans (limbs_mono (Nat.div_le_self _ _)) hl1
  refine CW.region ?_
  refine WP.s .n (O.fa rfl fld31_1 rfl) ?_
  refine WP.s .n (O.ld rfl (mem_at 0 rfl) (Lens.snd (Lens.id _)) ty29 rfl) ?_
  refine WP.s .n (O.mv rfl) ?_
  refine WP.s .n (O.fn fn162 (evs.c rfl (evs.c rfl evs.nil)) (c_ref01_Div ((canon d1).2) (limbs (Nat.gcd (nval ((canon n1).2)) (nval ((canon d1).2)))) (by omega) (by omega))) ?_
  refine WP.s .n (O.mv rfl) ?_
  refine WP.s .n (O.ext rfl rfl) ?_
  refine WP.s .n (O.ext rfl rfl) ?_
  refine WP.s .n (O.ext rfl rfl) ?_
  refine WP.s .n (O.asg rfl) ?_
  refine WP.s .n (O.asg rfl) ?_
  refine WP.s .n (O.asg rfl) ?_
  refine WP.nil ?_
  refine QE.next ?_
  refine CW.seq ?_
  refine ST.told 11 rfl (is_eq (y := (limbs (d1.natAbs / Int.gcd n d))) (by rw [nval_limbs, hg, canon_nval])) ?_
  refine CW.region ?_
  refine WP.s .n (O.fa rfl fld31_0 rfl) ?_
  refine WP.s .n (O.ld rfl (mem_at 1 rfl) (Lens.fst (Lens.id _)) ty4 rfl) ?_
  refine WP.s .n (O.mv rfl) ?_
  refine WP.s .n (O.bld lit31_I rfl (evp.c rfl (evp.c rfl evp.n)) (.cons rfl (Lens.fst (Lens.id _)) (.cons rfl (Lens.snd (Lens.id _)) (.nil _)))) ?_
  refine WP.s .n (O.fn fn92 (evs.l rfl (kI_Z rfl (by omega)) evs.nil) (c_ref02_Norm (ival ((canon n1).1, (limbs (n1.natAbs / Int.gcd n d)))))) ?_
  refine ST.told 50 rfl (is_eq (y := (rmk n d).1) (by rw [hn1]; exact ival_div (by omega) (by rw [← gcd_sign hd]; exact Int.gcd_dvd_left ..))) ?_
  refine WP.s .n (O.mv rfl) ?_
  refine WP.s .n (O.bld lit31_I rfl (evp.c rfl evp.n) (.cons rfl (Lens.snd (Lens.id _)) (.nil _))) ?_
  refine ST.told (q := kC.is ((rmk n d).2)) 52 rfl (kI_C (rmk_den hd hd1)) ?_
  refine WP.s .n (O.bld lit60_pr_C_C_ rfl (evp.c rfl (evp.c rfl evp.n)) (.cons rfl (Lens.fst (Lens.id _)) (.cons rfl (Lens.snd (Lens.id _)) (.nil _)))) ?_
  refine WP.t .n (O.stW (l := (kPair kC kC)) (u := ((rmk n d).1, (rmk n d).2)) 2 rfl rfl rfl ty60 rfl (VP.le_refl _)) ?_
  refine WP.nil ?_
  refine QE.next ?_
  refine CW.ret ?_
  exact QE.done (.inl rfl) rfl (ResOk.cl rfl (mem_at 2 rfl) ty60 (is_eq (y := rmk n d) (by first | omega | rfl | assumption)) ResOk.nil) (OImp.sub (List.nil_sublist _)) ⟨rfl, rfl⟩

end Fw


/- What the fractions of the document answer. -/
set_option linter.unusedVariables false
set_option linter.unusedSimpArgs false
set_option exponentiation.threshold 400
namespace Fw
open Go Go.Proofs

set_option maxRecDepth 20000 in
set_option maxHeartbeats 1000000 in
theorem c_ref03_one  : Fn Try.prog 263 [] (kC.is 1) := by
  refine Con.enter Try.func263 rfl rfl fun m w => ?_
  refine CW.seq ?_
  refine CW.region ?_
  refine WP.al .n z31_C fun b1 => ?_
  refine WP.nil ?_
  refine QE.next ?_
  refine CW.seq ?_
  refine CW.region ?_
  refine WP.s .n (O.fn fn78 (evs.l rfl (i64_int (by omega)) evs.nil) (c_ref02_Of 1)) ?_
  refine WP.t .n (O.stW (l := kC) (u := 1) 0 rfl rfl rfl ty31 rfl (VP.le_refl _)) ?_
  refine WP.nil ?_
  refine QE.next ?_
  refine CW.ret ?_
  exact QE.done (.inl rfl) rfl (ResOk.c rfl (mem_at 0 rfl) ty31 ResOk.nil) (OImp.sub (List.nil_sublist _)) ⟨rfl, rfl⟩

set_option maxRecDepth 20000 in
set_option maxHeartbeats 1000000 in
theorem c_ref03_Of (z : Int) : Fn Try.prog 245 [kZ.is z] ((kPair kC kC).is (rq (z : Rat))) := by
  refine Con.enter Try.func245 rfl rfl fun m w => ?_
  refine ST.fact (i := 0) rfl kZ_sm fun hsz => ?_
  refine CW.seq ?_
  refine CW.region ?_
  refine WP.bx .n rfl fun b1 => ?_
  refine WP.al .n z60_pr_C_C_ fun b2 => ?_
  refine WP.nil ?_
  refine QE.next ?_
  refine CW.seq ?_
  refine CW.region ?_
  refine WP.s .n (O.ld rfl (mem_at 1 rfl) (Lens.id _) ty31 rfl) ?_
  refine WP.s .n (O.fn fn92 (evs.c rfl evs.nil) (c_ref02_Norm z)) ?_
  refine WP.s .n (O.fn fn263 evs.nil (c_ref03_one)) ?_
  refine WP.s .n (O.bld lit60_pr_C_C_ rfl (evp.c rfl (evp.c rfl evp.n)) (.cons rfl (Lens.fst (Lens.id _)) (.cons rfl (Lens.snd (Lens.id _)) (.nil _)))) ?_
  refine WP.t .n (O.stW (l := (kPair kC kC)) (u := (z, 1)) 0 rfl rfl rfl ty60 rfl (VP.le_refl _)) ?_
  refine WP.nil ?_
  refine QE.next ?_
  refine CW.ret ?_
  refine ST.obtold 0 rfl (OB.box_eq (y := (rq (z : Rat))) (rq_int z).symm) ?_
  exact QE.done (.inl rfl) rfl (ResOk.c rfl (mem_at 0 rfl) ty60 ResOk.nil) (OImp.sub (List.nil_sublist _)) ⟨rfl, rfl⟩

set_option maxRecDepth 20000 in
set_option maxHeartbeats 1000000 in
theorem c_ref03_Neg (n : Nat) (p : Rat) (hp : RZ n p) (hn : n ≤ 68719476736) : Fn Try.prog 247 [(kPair kC kC).is (rq p)] ((kPair kC kC).is (rq (-p))) := by
  refine Con.enter Try.func247 rfl rfl fun m w => ?_
  refine CW.seq ?_
  refine CW.region ?_
  refine WP.bx .n rfl fun b1 => ?_
  refine WP.al .n z60_pr_C_C_ fun b2 => ?_
  refine WP.nil ?_
  refine QE.next ?_
  refine CW.seq ?_
  refine CW.draw (Γ := [.fr (VP.ex (.pointer (some ⟨b1, 0, none⟩))), .fr (kC.is ((rq p).1)), .fr (kC.is (-((rq p).1))), .fr (VP.ex (.pointer (some ⟨b1, 2, none⟩))), .fr (kC.is ((rq p).2)), .fr ((kPair kC kC).is (rmk (-((rq p).1)) ((rq p).2)))]) (lates := [false, false, false, false, false, false]) (by kernel_rfl) (Chk.of rfl (by kernel_rfl) rfl) (fun _ _ _ _ _ h => h) (fun q_ x_ h_ => ?_) (fun σ1 => ?_)
  · match q_, h_ with
    | 0, h_ => cases h_; exact Ob.f rfl .n fun N => (O.fa rfl fld60_0 rfl)
    | 1, h_ => cases h_; exact Ob.f rfl .n fun N => (O.ld rfl (mem_app N (mem_at 1 rfl)) (Lens.fst (Lens.id _)) ty31 rfl)
    | 2, h_ => cases h_; exact Ob.f rfl .n fun N => (O.fn fn93 (evs.l rfl (kC_Z (by first | exact hp.a.sm (by omega) | exact hp.b.sm (by omega) | exact hq.a.sm (by omega) | exact hq.b.sm (by omega) | exact (hp.a.mul hq.a).sm (by omega) | exact (hp.b.mul hq.b).sm (by omega) | exact (hp.a.mul hq.b).sm (by omega) | exact (hq.a.mul hp.b).sm (by omega) | exact (hp.b.mul hq.a).sm (by omega) | exact ((hp.a.mul hq.b).add (hq.a.mul hp.b)).sm (by omega) | exact hp.a.neg.sm (by omega))) evs.nil) (c_ref02_Neg ((rq p).1)))
    | 3, h_ => cases h_; exact Ob.f rfl .n fun N => (O.fa rfl fld60_1 rfl)
    | 4, h_ => cases h_; exact Ob.f rfl .n fun N => (O.ld rfl (mem_app N (mem_at 1 rfl)) (Lens.snd (Lens.id _)) ty31 rfl)
    | 5, h_ => cases h_; exact Ob.f rfl .n fun N => (O.fn fn99 (evs.l rfl (kC_Z (by first | exact hp.a.sm (by omega) | exact hp.b.sm (by omega) | exact hq.a.sm (by omega) | exact hq.b.sm (by omega) | exact (hp.a.mul hq.a).sm (by omega) | exact (hp.b.mul hq.b).sm (by omega) | exact (hp.a.mul hq.b).sm (by omega) | exact (hq.a.mul hp.b).sm (by omega) | exact (hp.b.mul hq.a).sm (by omega) | exact ((hp.a.mul hq.b).add (hq.a.mul hp.b)).sm (by omega) | exact hp.a.neg.sm (by omega))) (evs.l rfl (kC_Z (by first | exact hp.a.sm (by omega) | exact hp.b.sm (by omega) | exact hq.a.sm (by omega) | exact hq.b.sm (by omega) | exact (hp.a.mul hq.a).sm (by omega) | exact (hp.b.mul hq.b).sm (by omega) | exact (hp.a.mul hq.b).sm (by omega) | exact (hq.a.mul hp.b).sm (by omega) | exact (hp.b.mul hq.a).sm (by omega) | exact ((hp.a.mul hq.b).add (hq.a.mul hp.b)).sm (by omega) | exact hp.a.neg.sm (by omega))) evs.nil)) (c_ref03_Make (-((rq p).1)) ((rq p).2) (rq_den_ne p)))
    | n_ + 6, h_ => simp at h_
  refine WP.t .n (O.stW (l := (kPair kC kC)) (u := rmk (-((rq p).1)) ((rq p).2)) 0 rfl rfl rfl ty60 rfl (VP.le_refl _)) ?_
  refine WP.nil ?_
  refine QE.next ?_
  refine CW.ret ?_
  refine ST.obtold 0 rfl (OB.box_eq (y := (rq (-p))) (rq_neg p)) ?_
  exact QE.done (.inl rfl) rfl (ResOk.c rfl (mem_at 0 rfl) ty60 ResOk.nil) (OImp.sub (List.nil_sublist _)) ⟨rfl, rfl⟩

set_option maxRecDepth 20000 in
set_option maxHeartbeats 1000000 in
theorem c_ref03_Add (n : Nat) (p q : Rat) (hp : RZ n p) (hq : RZ n q) (hn : n ≤ 68719476736) : Fn Try.prog 264 [(kPair kC kC).is (rq p), (kPair kC kC).is (rq q)] ((kPair kC kC).is (rq (p + q))) := by
  refine Con.enter Try.func264 rfl rfl fun m w => ?_
  refine CW.seq ?_
  refine CW.region ?_
  refine WP.bx .n rfl fun b1 => ?_
  refine WP.bx .n rfl fun b2 => ?_
  refine WP.al .n z60_pr_C_C_ fun b3 => ?_
  refine WP.nil ?_
  refine QE.next ?_
  refine CW.seq ?_
  refine CW.region ?_
  refine WP.s .n (O.fa rfl fld60_0 rfl) ?_
  refine WP.s .n (O.ld rfl (mem_at 2 rfl) (Lens.fst (Lens.id _)) ty31 rfl) ?_
  refine WP.s .n (O.fa rfl fld60_1 rfl) ?_
  refine WP.s .n (O.ld rfl (mem_at 1 rfl) (Lens.snd (Lens.id _)) ty31 rfl) ?_
  refine WP.s .n (O.fn fn91 (evs.l rfl (kC_Z (by first | exact hp.a.sm (by omega) | exact hp.b.sm (by omega) | exact hq.a.sm (by omega) | exact hq.b.sm (by omega) | exact (hp.a.mul hq.a).sm (by omega) | exact (hp.b.mul hq.b).sm (by omega) | exact (hp.a.mul hq.b).sm (by omega) | exact (hq.a.mul hp.b).sm (by omega) | exact (hp.b.mul hq.a).sm (by omega) | exact ((hp.a.mul hq.b).add (hq.a.mul hp.b)).sm (by omega) | exact hp.a.neg.sm (by omega))) (evs.l rfl (kC_Z (by first | exact hp.a.sm (by omega) | exact hp.b.sm (by omega) | exact hq.a.sm (by omega) | exact hq.b.sm (by omega) | exact (hp.a.mul hq.a).sm (by omega) | exact (hp.b.mul hq.b).sm (by omega) | exact (hp.a.mul hq.b).sm (by omega) | exact (hq.a.mul hp.b).sm (by omega) | exact (hp.b.mul hq.a).sm (by omega) | exact ((hp.a.mul hq.b).add (hq.a.mul hp.b)).sm (by omega) | exact hp.a.neg.sm (by omega))) evs.nil)) (c_ref02_Mul ((rq p).1) ((rq q).2))) ?_
  refine WP.al .n z31_C fun b4 => ?_
  refine WP.t .n (O.stW (l := kC) (u := ((rq p).1) * ((rq q).2)) 0 rfl rfl rfl ty31 rfl (VP.le_refl _)) ?_
  refine WP.nil ?_
  refine QE.next ?_
  refine CW.seq ?_
  refine CW.region ?_
  refine WP.s .n (O.fa rfl fld60_0 rfl) ?_
  refine WP.s .n (O.ld rfl (mem_at 2 rfl) (Lens.fst (Lens.id _)) ty31 rfl) ?_
  refine WP.s .n (O.fa rfl fld60_1 rfl) ?_
  refine WP.s .n (O.ld rfl (mem_at 3 rfl) (Lens.snd (Lens.id _)) ty31 rfl) ?_
  refine WP.s .n (O.fn fn91 (evs.l rfl (kC_Z (by first | exact hp.a.sm (by omega) | exact hp.b.sm (by omega) | exact hq.a.sm (by omega) | exact hq.b.sm (by omega) | exact (hp.a.mul hq.a).sm (by omega) | exact (hp.b.mul hq.b).sm (by omega) | exact (hp.a.mul hq.b).sm (by omega) | exact (hq.a.mul hp.b).sm (by omega) | exact (hp.b.mul hq.a).sm (by omega) | exact ((hp.a.mul hq.b).add (hq.a.mul hp.b)).sm (by omega) | exact hp.a.neg.sm (by omega))) (evs.l rfl (kC_Z (by first | exact hp.a.sm (by omega) | exact hp.b.sm (by omega) | exact hq.a.sm (by omega) | exact hq.b.sm (by omega) | exact (hp.a.mul hq.a).sm (by omega) | exact (hp.b.mul hq.b).sm (by omega) | exact (hp.a.mul hq.b).sm (by omega) | exact (hq.a.mul hp.b).sm (by omega) | exact (hp.b.mul hq.a).sm (by omega) | exact ((hp.a.mul hq.b).add (hq.a.mul hp.b)).sm (by omega) | exact hp.a.neg.sm (by omega))) evs.nil)) (c_ref02_Mul ((rq q).1) ((rq p).2))) ?_
  refine WP.al .n z31_C fun b5 => ?_
  refine WP.t .n (O.stW (l := kC) (u := ((rq q).1) * ((rq p).2)) 0 rfl rfl rfl ty31 rfl (VP.le_refl _)) ?_
  refine WP.nil ?_
  refine QE.next ?_
  refine CW.seq ?_
  refine CW.draw (Γ := [.fr (kC.is (((rq p).1) * ((rq q).2))), .fr (kC.is (((rq q).1) * ((rq p).2))), .fr (kC.is ((((rq p).1) * ((rq q).2)) + (((rq q).1) * ((rq p).2)))), .fr (VP.ex (.pointer (some ⟨b1, 2, none⟩))), .fr (kC.is ((rq p).2)), .fr (VP.ex (.pointer (some ⟨b2, 2, none⟩))), .fr (kC.is ((rq q).2)), .fr (kC.is (((rq p).2) * ((rq q).2))), .fr ((kPair kC kC).is (rmk ((((rq p).1) * ((rq q).2)) + (((rq q).1) * ((rq p).2))) (((rq p).2) * ((rq q).2))))]) (lates := [false, false, false, false, false, false, false, false, false]) (by kernel_rfl) (Chk.of rfl (by kernel_rfl) rfl) (fun _ _ _ _ _ h => h) (fun q_ x_ h_ => ?_) (fun σ1 => ?_)
  · match q_, h_ with
    | 0, h_ => cases h_; exact Ob.f rfl .n fun N => (O.ld rfl (mem_app N (mem_at 1 rfl)) (Lens.id _) ty31 rfl)
    | 1, h_ => cases h_; exact Ob.f rfl .n fun N => (O.ld rfl (mem_app N (mem_at 0 rfl)) (Lens.id _) ty31 rfl)
    | 2, h_ => cases h_; exact Ob.f rfl .n fun N => (O.fn fn79 (evs.l rfl (kC_Z (by first | exact hp.a.sm (by omega) | exact hp.b.sm (by omega) | exact hq.a.sm (by omega) | exact hq.b.sm (by omega) | exact (hp.a.mul hq.a).sm (by omega) | exact (hp.b.mul hq.b).sm (by omega) | exact (hp.a.mul hq.b).sm (by omega) | exact (hq.a.mul hp.b).sm (by omega) | exact (hp.b.mul hq.a).sm (by omega) | exact ((hp.a.mul hq.b).add (hq.a.mul hp.b)).sm (by omega) | exact hp.a.neg.sm (by omega))) (evs.l rfl (kC_Z (by first | exact hp.a.sm (by omega) | exact hp.b.sm (by omega) | exact hq.a.sm (by omega) | exact hq.b.sm (by omega) | exact (hp.a.mul hq.a).sm (by omega) | exact (hp.b.mul hq.b).sm (by omega) | exact (hp.a.mul hq.b).sm (by omega) | exact (hq.a.mul hp.b).sm (by omega) | exact (hp.b.mul hq.a).sm (by omega) | exact ((hp.a.mul hq.b).add (hq.a.mul hp.b)).sm (by omega) | exact hp.a.neg.sm (by omega))) evs.nil)) (c_ref02_Add (((rq p).1) * ((rq q).2)) (((rq q).1) * ((rq p).2))))
    | 3, h_ => cases h_; exact Ob.f rfl .n fun N => (O.fa rfl fld60_1 rfl)
    | 4, h_ => cases h_; exact Ob.f rfl .n fun N => (O.ld rfl (mem_app N (mem_at 4 rfl)) (Lens.snd (Lens.id _)) ty31 rfl)
    | 5, h_ => cases h_; exact Ob.f rfl .n fun N => (O.fa rfl fld60_1 rfl)
    | 6, h_ => cases h_; exact Ob.f rfl .n fun N => (O.ld rfl (mem_app N (mem_at 3 rfl)) (Lens.snd (Lens.id _)) ty31 rfl)
    | 7, h_ => cases h_; exact Ob.f rfl .n fun N => (O.fn fn91 (evs.l rfl (kC_Z (by first | exact hp.a.sm (by omega) | exact hp.b.sm (by omega) | exact hq.a.sm (by omega) | exact hq.b.sm (by omega) | exact (hp.a.mul hq.a).sm (by omega) | exact (hp.b.mul hq.b).sm (by omega) | exact (hp.a.mul hq.b).sm (by omega) | exact (hq.a.mul hp.b).sm (by omega) | exact (hp.b.mul hq.a).sm (by omega) | exact ((hp.a.mul hq.b).add (hq.a.mul hp.b)).sm (by omega) | exact hp.a.neg.sm (by omega))) (evs.l rfl (kC_Z (by first | exact hp.a.sm (by omega) | exact hp.b.sm (by omega) | exact hq.a.sm (by omega) | exact hq.b.sm (by omega) | exact (hp.a.mul hq.a).sm (by omega) | exact (hp.b.mul hq.b).sm (by omega) | exact (hp.a.mul hq.b).sm (by omega) | exact (hq.a.mul hp.b).sm (by omega) | exact (hp.b.mul hq.a).sm (by omega) | exact ((hp.a.mul hq.b).add (hq.a.mul hp.b)).sm (by omega) | exact hp.a.neg.sm (by omega))) evs.nil)) (c_ref02_Mul ((rq p).2) ((rq q).2)))
    | 8, h_ => cases h_; exact Ob.f rfl .n fun N => (O.fn fn99 (evs.l rfl (kC_Z (by first | exact hp.a.sm (by omega) | exact hp.b.sm (by omega) | exact hq.a.sm (by omega) | exact hq.b.sm (by omega) | exact (hp.a.mul hq.a).sm (by omega) | exact (hp.b.mul hq.b).sm (by omega) | exact (hp.a.mul hq.b).sm (by omega) | exact (hq.a.mul hp.b).sm (by omega) | exact (hp.b.mul hq.a).sm (by omega) | exact ((hp.a.mul hq.b).add (hq.a.mul hp.b)).sm (by omega) | exact hp.a.neg.sm (by omega))) (evs.l rfl (kC_Z (by first | exact hp.a.sm (by omega) | exact hp.b.sm (by omega) | exact hq.a.sm (by omega) | exact hq.b.sm (by omega) | exact (hp.a.mul hq.a).sm (by omega) | exact (hp.b.mul hq.b).sm (by omega) | exact (hp.a.mul hq.b).sm (by omega) | exact (hq.a.mul hp.b).sm (by omega) | exact (hp.b.mul hq.a).sm (by omega) | exact ((hp.a.mul hq.b).add (hq.a.mul hp.b)).sm (by omega) | exact hp.a.neg.sm (by omega))) evs.nil)) (c_ref03_Make ((((rq p).1) * ((rq q).2)) + (((rq q).1) * ((rq p).2))) (((rq p).2) * ((rq q).2)) (Int.mul_ne_zero (rq_den_ne p) (rq_den_ne q))))
    | n_ + 9, h_ => simp at h_
  refine WP.t .n (O.stW (l := (kPair kC kC)) (u := rmk ((((rq p).1) * ((rq q).2)) + (((rq q).1) * ((rq p).2))) (((rq p).2) * ((rq q).2))) 2 rfl rfl rfl ty60 rfl (VP.le_refl _)) ?_
  refine WP.nil ?_
  refine QE.next ?_
  refine CW.ret ?_
  refine ST.obtold 2 rfl (OB.box_eq (y := (rq (p + q))) (rq_add p q)) ?_
  exact QE.done (.inl rfl) rfl (ResOk.c rfl (mem_at 2 rfl) ty60 ResOk.nil) (OImp.sub (List.nil_sublist _)) ⟨rfl, rfl⟩

set_option maxRecDepth 20000 in
set_option maxHeartbeats 1000000 in
theorem c_ref03_Mul (n : Nat) (p q : Rat) (hp : RZ n p) (hq : RZ n q) (hn : n ≤ 68719476736) : Fn Try.prog 248 [(kPair kC kC).is (rq p), (kPair kC kC).is (rq q)] ((kPair kC kC).is (rq (p * q))) := by
  refine Con.enter Try.func248 rfl rfl fun m w => ?_
  refine CW.seq ?_
  refine CW.region ?_
  refine WP.bx .n rfl fun b1 => ?_
  refine WP.bx .n rfl fun b2 => ?_
  refine WP.al .n z60_pr_C_C_ fun b3 => ?_
  refine WP.nil ?_
  refine QE.next ?_
  refine CW.seq ?_
  refine CW.draw (Γ := [.fr (VP.ex (.pointer (some ⟨b1, 0, none⟩))), .fr (kC.is ((rq p).1)), .fr (VP.ex (.pointer (some ⟨b2, 0, none⟩))), .fr (kC.is ((rq q).1)), .fr (kC.is (((rq p).1) * ((rq q).1))), .fr (VP.ex (.pointer (some ⟨b1, 2, none⟩))), .fr (kC.is ((rq p).2)), .fr (VP.ex (.pointer (some ⟨b2, 2, none⟩))), .fr (kC.is ((rq q).2)), .fr (kC.is (((rq p).2) * ((rq q).2))), .fr ((kPair kC kC).is (rmk (((rq p).1) * ((rq q).1)) (((rq p).2) * ((rq q).2))))]) (lates := [false, false, false, false, false, false, false, false, false, false, false]) (by kernel_rfl) (Chk.of rfl (by kernel_rfl) rfl) (fun _ _ _ _ _ h => h) (fun q_ x_ h_ => ?_) (fun σ1 => ?_)
  · match q_, h_ with
    | 0, h_ => cases h_; exact Ob.f rfl .n fun N => (O.fa rfl fld60_0 rfl)
    | 1, h_ => cases h_; exact Ob.f rfl .n fun N => (O.ld rfl (mem_app N (mem_at 2 rfl)) (Lens.fst (Lens.id _)) ty31 rfl)
    | 2, h_ => cases h_; exact Ob.f rfl .n fun N => (O.fa rfl fld60_0 rfl)
    | 3, h_ => cases h_; exact Ob.f rfl .n fun N => (O.ld rfl (mem_app N (mem_at 1 rfl)) (Lens.fst (Lens.id _)) ty31 rfl)
    | 4, h_ => cases h_; exact Ob.f rfl .n fun N => (O.fn fn91 (evs.l rfl (kC_Z (by first | exact hp.a.sm (by omega) | exact hp.b.sm (by omega) | exact hq.a.sm (by omega) | exact hq.b.sm (by omega) | exact (hp.a.mul hq.a).sm (by omega) | exact (hp.b.mul hq.b).sm (by omega) | exact (hp.a.mul hq.b).sm (by omega) | exact (hq.a.mul hp.b).sm (by omega) | exact (hp.b.mul hq.a).sm (by omega) | exact ((hp.a.mul hq.b).add (hq.a.mul hp.b)).sm (by omega) | exact hp.a.neg.sm (by omega))) (evs.l rfl (kC_Z (by first | exact hp.a.sm (by omega) | exact hp.b.sm (by omega) | exact hq.a.sm (by omega) | exact hq.b.sm (by omega) | exact (hp.a.mul hq.a).sm (by omega) | exact (hp.b.mul hq.b).sm (by omega) | exact (hp.a.mul hq.b).sm (by omega) | exact (hq.a.mul hp.b).sm (by omega) | exact (hp.b.mul hq.a).sm (by omega) | exact ((hp.a.mul hq.b).add (hq.a.mul hp.b)).sm (by omega) | exact hp.a.neg.sm (by omega))) evs.nil)) (c_ref02_Mul ((rq p).1) ((rq q).1)))
    | 5, h_ => cases h_; exact Ob.f rfl .n fun N => (O.fa rfl fld60_1 rfl)
    | 6, h_ => cases h_; exact Ob.f rfl .n fun N => (O.ld rfl (mem_app N (mem_at 2 rfl)) (Lens.snd (Lens.id _)) ty31 rfl)
    | 7, h_ => cases h_; exact Ob.f rfl .n fun N => (O.fa rfl fld60_1 rfl)
    | 8, h_ => cases h_; exact Ob.f rfl .n fun N => (O.ld rfl (mem_app N (mem_at 1 rfl)) (Lens.snd (Lens.id _)) ty31 rfl)
    | 9, h_ => cases h_; exact Ob.f rfl .n fun N => (O.fn fn91 (evs.l rfl (kC_Z (by first | exact hp.a.sm (by omega) | exact hp.b.sm (by omega) | exact hq.a.sm (by omega) | exact hq.b.sm (by omega) | exact (hp.a.mul hq.a).sm (by omega) | exact (hp.b.mul hq.b).sm (by omega) | exact (hp.a.mul hq.b).sm (by omega) | exact (hq.a.mul hp.b).sm (by omega) | exact (hp.b.mul hq.a).sm (by omega) | exact ((hp.a.mul hq.b).add (hq.a.mul hp.b)).sm (by omega) | exact hp.a.neg.sm (by omega))) (evs.l rfl (kC_Z (by first | exact hp.a.sm (by omega) | exact hp.b.sm (by omega) | exact hq.a.sm (by omega) | exact hq.b.sm (by omega) | exact (hp.a.mul hq.a).sm (by omega) | exact (hp.b.mul hq.b).sm (by omega) | exact (hp.a.mul hq.b).sm (by omega) | exact (hq.a.mul hp.b).sm (by omega) | exact (hp.b.mul hq.a).sm (by omega) | exact ((hp.a.mul hq.b).add (hq.a.mul hp.b)).sm (by omega) | exact hp.a.neg.sm (by omega))) evs.nil)) (c_ref02_Mul ((rq p).2) ((rq q).2)))
    | 10, h_ => cases h_; exact Ob.f rfl .n fun N => (O.fn fn99 (evs.l rfl (kC_Z (by first | exact hp.a.sm (by omega) | exact hp.b.sm (by omega) | exact hq.a.sm (by omega) | exact hq.b.sm (by omega) | exact (hp.a.mul hq.a).sm (by omega) | exact (hp.b.mul hq.b).sm (by omega) | exact (hp.a.mul hq.b).sm (by omega) | exact (hq.a.mul hp.b).sm (by omega) | exact (hp.b.mul hq.a).sm (by omega) | exact ((hp.a.mul hq.b).add (hq.a.mul hp.b)).sm (by omega) | exact hp.a.neg.sm (by omega))) (evs.l rfl (kC_Z (by first | exact hp.a.sm (by omega) | exact hp.b.sm (by omega) | exact hq.a.sm (by omega) | exact hq.b.sm (by omega) | exact (hp.a.mul hq.a).sm (by omega) | exact (hp.b.mul hq.b).sm (by omega) | exact (hp.a.mul hq.b).sm (by omega) | exact (hq.a.mul hp.b).sm (by omega) | exact (hp.b.mul hq.a).sm (by omega) | exact ((hp.a.mul hq.b).add (hq.a.mul hp.b)).sm (by omega) | exact hp.a.neg.sm (by omega))) evs.nil)) (c_ref03_Make (((rq p).1) * ((rq q).1)) (((rq p).2) * ((rq q).2)) (Int.mul_ne_zero (rq_den_ne p) (rq_den_ne q))))
    | n_ + 11, h_ => simp at h_
  refine WP.t .n (O.stW (l := (kPair kC kC)) (u := rmk (((rq p).1) * ((rq q).1)) (((rq p).2) * ((rq q).2))) 0 rfl rfl rfl ty60 rfl (VP.le_refl _)) ?_
  refine WP.nil ?_
  refine QE.next ?_
  refine CW.ret ?_
  refine ST.obtold 0 rfl (OB.box_eq (y := (rq (p * q))) (rq_mul p q)) ?_
  exact QE.done (.inl rfl) rfl (ResOk.c rfl (mem_at 0 rfl) ty60 ResOk.nil) (OImp.sub (List.nil_sublist _)) ⟨rfl, rfl⟩

set_option maxRecDepth 20000 in
set_option maxHeartbeats 1000000 in
theorem c_ref03_Div (n : Nat) (p q : Rat) (hp : RZ n p) (hq : RZ n q) (hn : n ≤ 68719476736) (h0 : q ≠ 0) : Fn Try.prog 249 [(kPair kC kC).is (rq p), (kPair kC kC).is (rq q)] ((kPair kC kC).is (rq (p / q))) := by
  refine Con.enter Try.func249 rfl rfl fun m w => ?_
  refine CW.seq ?_
  refine CW.region ?_
  refine WP.bx .n rfl fun b1 => ?_
  refine WP.bx .n rfl fun b2 => ?_
  refine WP.al .n z60_pr_C_C_ fun b3 => ?_
  refine WP.nil ?_
  refine QE.next ?_
  refine CW.seq ?_
  refine CW.draw (Γ := [.fr (VP.ex (.pointer (some ⟨b1, 0, none⟩))), .fr (kC.is ((rq p).1)), .fr (VP.ex (.pointer (some ⟨b2, 2, none⟩))), .fr (kC.is ((rq q).2)), .fr (kC.is (((rq p).1) * ((rq q).2))), .fr (VP.ex (.pointer (some ⟨b1, 2, none⟩))), .fr (kC.is ((rq p).2)), .fr (VP.ex (.pointer (some ⟨b2, 0, none⟩))), .fr (kC.is ((rq q).1)), .fr (kC.is (((rq p).2) * ((rq q).1))), .fr ((kPair kC kC).is (rmk (((rq p).1) * ((rq q).2)) (((rq p).2) * ((rq q).1))))]) (lates := [false, false, false, false, false, false, false, false, false, false, false]) (by kernel_rfl) (Chk.of rfl (by kernel_rfl) rfl) (fun _ _ _ _ _ h => h) (fun q_ x_ h_ => ?_) (fun σ1 => ?_)
  · match q_, h_ with
    | 0, h_ => cases h_; exact Ob.f rfl .n fun N => (O.fa rfl fld60_0 rfl)
    | 1, h_ => cases h_; exact Ob.f rfl .n fun N => (O.ld rfl (mem_app N (mem_at 2 rfl)) (Lens.fst (Lens.id _)) ty31 rfl)
    | 2, h_ => cases h_; exact Ob.f rfl .n fun N => (O.fa rfl fld60_1 rfl)
    | 3, h_ => cases h_; exact Ob.f rfl .n fun N => (O.ld rfl (mem_app N (mem_at 1 rfl)) (Lens.snd (Lens.id _)) ty31 rfl)
    | 4, h_ => cases h_; exact Ob.f rfl .n fun N => (O.fn fn91 (evs.l rfl (kC_Z (by first | exact hp.a.sm (by omega) | exact hp.b.sm (by omega) | exact hq.a.sm (by omega) | exact hq.b.sm (by omega) | exact (hp.a.mul hq.a).sm (by omega) | exact (hp.b.mul hq.b).sm (by omega) | exact (hp.a.mul hq.b).sm (by omega) | exact (hq.a.mul hp.b).sm (by omega) | exact (hp.b.mul hq.a).sm (by omega) | exact ((hp.a.mul hq.b).add (hq.a.mul hp.b)).sm (by omega) | exact hp.a.neg.sm (by omega))) (evs.l rfl (kC_Z (by first | exact hp.a.sm (by omega) | exact hp.b.sm (by omega) | exact hq.a.sm (by omega) | exact hq.b.sm (by omega) | exact (hp.a.mul hq.a).sm (by omega) | exact (hp.b.mul hq.b).sm (by omega) | exact (hp.a.mul hq.b).sm (by omega) | exact (hq.a.mul hp.b).sm (by omega) | exact (hp.b.mul hq.a).sm (by omega) | exact ((hp.a.mul hq.b).add (hq.a.mul hp.b)).sm (by omega) | exact hp.a.neg.sm (by omega))) evs.nil)) (c_ref02_Mul ((rq p).1) ((rq q).2)))
    | 5, h_ => cases h_; exact Ob.f rfl .n fun N => (O.fa rfl fld60_1 rfl)
    | 6, h_ => cases h_; exact Ob.f rfl .n fun N => (O.ld rfl (mem_app N (mem_at 2 rfl)) (Lens.snd (Lens.id _)) ty31 rfl)
    | 7, h_ => cases h_; exact Ob.f rfl .n fun N => (O.fa rfl fld60_0 rfl)
    | 8, h_ => cases h_; exact Ob.f rfl .n fun N => (O.ld rfl (mem_app N (mem_at 1 rfl)) (Lens.fst (Lens.id _)) ty31 rfl)
    | 9, h_ => cases h_; exact Ob.f rfl .n fun N => (O.fn fn91 (evs.l rfl (kC_Z (by first | exact hp.a.sm (by omega) | exact hp.b.sm (by omega) | exact hq.a.sm (by omega) | exact hq.b.sm (by omega) | exact (hp.a.mul hq.a).sm (by omega) | exact (hp.b.mul hq.b).sm (by omega) | exact (hp.a.mul hq.b).sm (by omega) | exact (hq.a.mul hp.b).sm (by omega) | exact (hp.b.mul hq.a).sm (by omega) | exact ((hp.a.mul hq.b).add (hq.a.mul hp.b)).sm (by omega) | exact hp.a.neg.sm (by omega))) (evs.l rfl (kC_Z (by first | exact hp.a.sm (by omega) | exact hp.b.sm (by omega) | exact hq.a.sm (by omega) | exact hq.b.sm (by omega) | exact (hp.a.mul hq.a).sm (by omega) | exact (hp.b.mul hq.b).sm (by omega) | exact (hp.a.mul hq.b).sm (by omega) | exact (hq.a.mul hp.b).sm (by omega) | exact (hp.b.mul hq.a).sm (by omega) | exact ((hp.a.mul hq.b).add (hq.a.mul hp.b)).sm (by omega) | exact hp.a.neg.sm (by omega))) evs.nil)) (c_ref02_Mul ((rq p).2) ((rq q).1)))
    | 10, h_ => cases h_; exact Ob.f rfl .n fun N => (O.fn fn99 (evs.l rfl (kC_Z (by first | exact hp.a.sm (by omega) | exact hp.b.sm (by omega) | exact hq.a.sm (by omega) | exact hq.b.sm (by omega) | exact (hp.a.mul hq.a).sm (by omega) | exact (hp.b.mul hq.b).sm (by omega) | exact (hp.a.mul hq.b).sm (by omega) | exact (hq.a.mul hp.b).sm (by omega) | exact (hp.b.mul hq.a).sm (by omega) | exact ((hp.a.mul hq.b).add (hq.a.mul hp.b)).sm (by omega) | exact hp.a.neg.sm (by omega))) (evs.l rfl (kC_Z (by first | exact hp.a.sm (by omega) | exact hp.b.sm (by omega) | exact hq.a.sm (by omega) | exact hq.b.sm (by omega) | exact (hp.a.mul hq.a).sm (by omega) | exact (hp.b.mul hq.b).sm (by omega) | exact (hp.a.mul hq.b).sm (by omega) | exact (hq.a.mul hp.b).sm (by omega) | exact (hp.b.mul hq.a).sm (by omega) | exact ((hp.a.mul hq.b).add (hq.a.mul hp.b)).sm (by omega) | exact hp.a.neg.sm (by omega))) evs.nil)) (c_ref03_Make (((rq p).1) * ((rq q).2)) (((rq p).2) * ((rq q).1)) (Int.mul_ne_zero (rq_den_ne p) (rq_num_ne h0))))
    | n_ + 11, h_ => simp at h_
  refine WP.t .n (O.stW (l := (kPair kC kC)) (u := rmk (((rq p).1) * ((rq q).2)) (((rq p).2) * ((rq q).1))) 0 rfl rfl rfl ty60 rfl (VP.le_refl _)) ?_
  refine WP.nil ?_
  refine QE.next ?_
  refine CW.ret ?_
  refine ST.obtold 0 rfl (OB.box_eq (y := (rq (p / q))) (rq_div p h0)) ?_
  exact QE.done (.inl rfl) rfl (ResOk.c rfl (mem_at 0 rfl) ty60 ResOk.nil) (OImp.sub (List.nil_sublist _)) ⟨rfl, rfl⟩

set_option maxRecDepth 20000 in
set_option maxHeartbeats 1000000 in
theorem c_ref03_Sub (n : Nat) (p q : Rat) (hp : RZ n p) (hq : RZ n q) (hn : n ≤ 68719476736) : Fn Try.prog 252 [(kPair kC kC).is (rq p), (kPair kC kC).is (rq q)] ((kPair kC kC).is (rq (p - q))) := by
  refine Con.enter Try.func252 rfl rfl fun m w => ?_
  refine CW.seq ?_
  refine CW.region ?_
  refine WP.bx .n rfl fun b1 => ?_
  refine WP.bx .n rfl fun b2 => ?_
  refine WP.al .n z60_pr_C_C_ fun b3 => ?_
  refine WP.nil ?_
  refine QE.next ?_
  refine CW.seq ?_
  refine CW.draw (Γ := [.fr ((kPair kC kC).is (rq p)), .fr ((kPair kC kC).is (rq q)), .fr ((kPair kC kC).is (rq (-q))), .fr ((kPair kC kC).is (rq (p + (-q))))]) (lates := [false, false, false, false]) (by kernel_rfl) (Chk.of rfl (by kernel_rfl) rfl) (fun _ _ _ _ _ h => h) (fun q_ x_ h_ => ?_) (fun σ1 => ?_)
  · match q_, h_ with
    | 0, h_ => cases h_; exact Ob.f rfl .n fun N => (O.ld rfl (mem_app N (mem_at 2 rfl)) (Lens.id _) ty60 rfl)
    | 1, h_ => cases h_; exact Ob.f rfl .n fun N => (O.ld rfl (mem_app N (mem_at 1 rfl)) (Lens.id _) ty60 rfl)
    | 2, h_ => cases h_; exact Ob.f rfl .n fun N => (O.fn fn247 (evs.c rfl evs.nil) (c_ref03_Neg n q hq hn))
    | 3, h_ => cases h_; exact Ob.f rfl .n fun N => (O.fn fn264 (evs.c rfl (evs.c rfl evs.nil)) (c_ref03_Add n p (-q) hp hq.neg hn))
    | n_ + 4, h_ => simp at h_
  refine WP.t .n (O.stW (l := (kPair kC kC)) (u := rq (p + (-q))) 0 rfl rfl rfl ty60 rfl (VP.le_refl _)) ?_
  refine WP.nil ?_
  refine QE.next ?_
  refine CW.ret ?_
  refine ST.obtold 0 rfl (OB.box_eq (y := (rq (p - q))) (by rw [Rat.sub_eq_add_neg])) ?_
  exact QE.done (.inl rfl) rfl (ResOk.c rfl (mem_at 0 rfl) ty60 ResOk.nil) (OImp.sub (List.nil_sublist _)) ⟨rfl, rfl⟩

end Fw


/- Plain facts: the sum of the products of two rows. -/
set_option linter.unusedVariables false
set_option linter.unusedSimpArgs false
set_option exponentiation.threshold 400
namespace Fw
open Go

/-- the first i products' sum -/
def dotN (u v : List Int) : Nat → Int
  | 0 => 0
  | i + 1 => dotN u v i + u.getD i 0 * v.getD i 0
def dotV (u v : List Int) : Int := dotN u v u.length
/-- entries of at most n bits -/
def SzL (n : Nat) (u : List Int) : Prop := ∀ i, Sz n (u.getD i 0)
theorem Sz.add1 {n : Nat} {x y : Int} (h : Sz n x) (k : Sz n y) : Sz (n + 1) (x + y) := by
  have := Sz.max h k
  have e : Nat.max n n = n := Nat.max_self n
  rwa [e] at this
theorem dotN_Sz {n m u v} (hu : SzL n u) (hv : SzL m v) : ∀ i, Sz (n + m + i) (dotN u v i)
  | 0 => Sz.zero _
  | i + 1 => by
    have h1 := dotN_Sz hu hv i
    have h2 := ((hu i).mul (hv i)).up (show n + m ≤ n + m + i by omega)
    exact Sz.add1 h1 h2
end Fw


/- Products of rows: what the functions answer. -/
set_option linter.unusedVariables false
set_option linter.unusedSimpArgs false
set_option exponentiation.threshold 400
namespace Fw
open Go Go.Proofs

set_option maxRecDepth 20000 in
set_option maxHeartbeats 1000000 in
theorem c_mat_dot (n : Nat) (u v : List Int) (hu : SzL n u) (hv : SzL n v) (hn : n + n + u.length ≤ 549755813000) (hl : u.length ≤ v.length) : Fn Try.prog 140 [(kSl kZ).is u, (kSl kZ).is v] (kC.is (dotV u v)) := by
  refine Con.enter Try.func140 rfl rfl fun m w => ?_
  refine ST.fact (i := 0) rfl sl_len fun hB => ?_
  refine CW.seq ?_
  refine CW.region ?_
  refine WP.al .n z31_C fun b1 => ?_
  refine WP.nil ?_
  refine QE.next ?_
  refine CW.seq ?_
  refine CW.region ?_
  refine WP.al .n z31_C fun b2 => ?_
  refine WP.nil ?_
  refine QE.next ?_
  refine CW.seq ?_
  refine CW.seq ?_
  refine CW.region ?_
  refine WP.s .n (O.mv rfl) ?_
  refine WP.s .n (O.lenS rfl Try.underlying27) ?_
  refine WP.s .n (O.mv rfl) ?_
  refine WP.nil ?_
  refine QE.next ?_
  refine CW.block ?_
  refine CW.loop (fun (i : Nat) => i ≤ u.length) (fun (i : Nat) => [(0, (kSl kZ).is u), (1, (kSl kZ).is v), (4, VP.ex (.pointer (some ⟨b1, 0, none⟩))), (5, VP.ex (.pointer (some ⟨b2, 0, none⟩))), (7, (kSl kZ).is u), (8, (kInt .i64).is (u.length : Int)), (9, (kInt .i64).is (i : Int))]) (fun (i : Nat) => [OB.box b2 31 kC (dotN u v i), OB.box b1 31 kC 0]) (fun (i : Nat) => u.length - i) 0 (by omega) (Imp.cons rfl (Imp.cons rfl (Imp.cons rfl (Imp.cons rfl (Imp.cons rfl (Imp.cons rfl (Imp.consLe rfl (is_eq (y := (0 : Int)) (by first | rfl | omega | assumption)) Imp.nil))))))) (OImp.os (OS.keepLe (OB.box_eq (by first | rfl | omega | assumption)) (OS.keep OS.nil))) ?_
  intro i hi
  refine CW.seq ?_
  refine CW.region ?_
  refine WP.s .n (O.lt rfl rfl) ?_
  refine WP.nil ?_
  refine QE.next ?_
  refine CW.seq ?_
  refine CW.condD rfl (fun h_t10 => ?_) (fun h_t10 => ?_)
  · refine CW.skip ?_
    refine QE.next ?_
    refine CW.seq ?_
    refine CW.block ?_
    refine CW.seq ?_
    refine CW.region ?_
    refine WP.s .n (O.mv rfl) ?_
    refine WP.s .n (O.asg rfl) ?_
    refine WP.nil ?_
    refine QE.next ?_
    refine CW.draw (Γ := [.fr (kC.is (dotN u v i)), .fr ((kSl kZ).is u), .fr ((kInt .i64).is (i : Int)), .fr (VP.pim kZ (u.getD i 0)), .fr (kZ.is (u.getD i 0)), .fr ((kSl kZ).is v), .fr ((kInt .i64).is (i : Int)), .fr (VP.pim kZ (v.getD i 0)), .fr (kZ.is (v.getD i 0)), .fr (kC.is ((u.getD i 0) * (v.getD i 0))), .fr (kC.is ((dotN u v i) + ((u.getD i 0) * (v.getD i 0))))]) (lates := [false, false, false, false, false, false, false, false, false, false, false]) (by kernel_rfl) (Chk.of rfl (by kernel_rfl) rfl) (fun _ _ _ _ _ h => h) (fun q_ x_ h_ => ?_) (fun σ1 => ?_)
    · match q_, h_ with
      | 0, h_ => cases h_; exact Ob.f rfl .n fun N => (O.ld rfl (mem_app N (mem_at 0 rfl)) (Lens.id _) ty31 rfl)
      | 1, h_ => cases h_; exact Ob.f rfl .n fun N => (O.mv rfl)
      | 2, h_ => cases h_; exact Ob.f rfl .n fun N => (O.mv rfl)
      | 3, h_ => cases h_; exact Ob.f rfl .n fun N => (O.ix i rfl rfl Try.underlying27 ty31 rfl (v := (u.getD i 0)) (gd 0 (by omega)))
      | 4, h_ => cases h_; exact Ob.f rfl .n fun N => (O.ldP rfl ty31)
      | 5, h_ => cases h_; exact Ob.f rfl .n fun N => (O.mv rfl)
      | 6, h_ => cases h_; exact Ob.f rfl .n fun N => (O.mv rfl)
      | 7, h_ => cases h_; exact Ob.f rfl .n fun N => (O.ix i rfl rfl Try.underlying27 ty31 rfl (v := (v.getD i 0)) (gd 0 (by omega)))
      | 8, h_ => cases h_; exact Ob.f rfl .n fun N => (O.ldP rfl ty31)
      | 9, h_ => cases h_; exact Ob.f rfl .n fun N => (O.fn fn76 (evs.c rfl (evs.c rfl evs.nil)) (c_zint_Mul (u.getD i 0) (v.getD i 0)))
      | 10, h_ => cases h_; exact Ob.f rfl .n fun N => (O.fn fn77 (evs.l rfl (kC_Z (by first | exact (hu i).sm (by omega) | exact (hv i).sm (by omega) | exact (dotN_Sz hu hv i).sm (by omega) | exact ((hu i).mul (hv i)).sm (by omega))) (evs.l rfl (kC_Z (by first | exact (hu i).sm (by omega) | exact (hv i).sm (by omega) | exact (dotN_Sz hu hv i).sm (by omega) | exact ((hu i).mul (hv i)).sm (by omega))) evs.nil)) (c_zint_Add (dotN u v i) ((u.getD i 0) * (v.getD i 0))))
      | n_ + 11, h_ => simp at h_
    refine WP.t .n (O.stW (l := kC) (u := (dotN u v i) + ((u.getD i 0) * (v.getD i 0))) 0 rfl rfl rfl ty31 rfl (VP.le_refl _)) ?_
    refine WP.nil ?_
    refine QE.blkN ?_
    refine QE.next ?_
    refine CW.region ?_
    refine WP.s .n (O.add rfl rfl (c := ((i : Int) + 1)) (w64 (by omega))) ?_
    refine WP.s .n (O.mv rfl) ?_
    refine WP.nil ?_
    refine ST.obtold 0 rfl (OB.box_eq (y := (dotN u v (i + 1))) rfl) ?_
    exact QE.round (i + 1) (by omega) (by omega) (Imp.cons rfl (Imp.cons rfl (Imp.cons rfl (Imp.cons rfl (Imp.cons rfl (Imp.cons rfl (Imp.consLe rfl (is_eq (y := (((i + 1) : Nat) : Int)) (by first | rfl | omega | assumption)) Imp.nil))))))) (OImp.refl _)
  · refine CW.exit ?_
    refine QE.thenE ?_
    refine QE.thenE ?_
    refine QE.blkH ?_
    refine QE.next ?_
    refine CW.seq ?_
    refine CW.region ?_
    refine WP.s .n (O.ld rfl (mem_at 0 rfl) (Lens.id _) ty31 rfl) ?_
    refine WP.t .n (O.stW (l := kC) (u := (dotN u v i)) 1 rfl rfl rfl ty31 rfl (VP.le_refl _)) ?_
    refine WP.nil ?_
    refine QE.next ?_
    refine CW.ret ?_
    refine ST.obtold 1 rfl (OB.box_eq (y := (dotV u v)) (by rw [show i = u.length by omega]; rfl)) ?_
    exact QE.done (.inl rfl) rfl (ResOk.c rfl (mem_at 1 rfl) ty31 ResOk.nil) (OImp.sub (List.nil_sublist _)) ⟨rfl, rfl⟩

set_option maxRecDepth 20000 in
set_option maxHeartbeats 1000000 in
theorem c_mat_Dot (n : Nat) (u v : List Int) (hu : SzL n u) (hv : SzL n v) (hn : n + n + u.length ≤ 549755813000) : Fn Try.prog 175 [(kSl kZ).is u, (kSl kZ).is v] (VP.tup [kC.is (if u.length = v.length then dotV u v else 0), (kInt .i64).is (if u.length = v.length then 0 else 8)]) := by
  refine Con.enter Try.func175 rfl rfl fun m w => ?_
  refine ST.fact (i := 0) rfl sl_len fun hB => ?_
  refine ST.fact (i := 1) rfl sl_len fun hC => ?_
  refine CW.seq ?_
  refine CW.region ?_
  refine WP.al .n z31_C fun b1 => ?_
  refine WP.s .n (O.asg rfl) ?_
  refine WP.nil ?_
  refine QE.next ?_
  refine CW.seq ?_
  refine CW.seq ?_
  refine CW.region ?_
  refine WP.s .n (O.mv rfl) ?_
  refine WP.s .n (O.lenS rfl Try.underlying27) ?_
  refine WP.s .n (O.mv rfl) ?_
  refine WP.s .n (O.lenS rfl Try.underlying27) ?_
  refine WP.s .n (O.ne rfl rfl) ?_
  refine WP.nil ?_
  refine QE.next ?_
  refine CW.condD rfl (fun h_t10 => ?_) (fun h_t10 => ?_)
  · refine CW.seq ?_
    refine CW.region ?_
    refine WP.s .n (O.bld lit31_C rfl evp.n (.nil _)) ?_
    refine WP.t .n (O.stW (l := kC) (u := 0) 0 rfl rfl rfl ty31 rfl (VP.le_refl _)) ?_
    refine WP.s .n (O.asg rfl) ?_
    refine WP.nil ?_
    refine QE.next ?_
    refine CW.ret ?_
    refine QE.thenR ?_
    have hne : u.length ≠ v.length := by omega
    refine ST.obtold 0 rfl (OB.box_eq (y := (if u.length = v.length then dotV u v else 0)) (by rw [if_neg hne])) ?_
    refine ST.told 5 rfl (is_eq (y := (if u.length = v.length then 0 else 8)) (by rw [if_neg hne])) ?_
    exact QE.done (.inl rfl) rfl (ResOk.c rfl (mem_at 0 rfl) ty31 (ResOk.t rfl ResOk.nil)) (OImp.sub (List.nil_sublist _)) ⟨rfl, rfl⟩
  · refine CW.skip ?_
    refine QE.next ?_
    refine CW.seq ?_
    refine CW.region ?_
    refine WP.s .n (O.mv rfl) ?_
    refine WP.s .n (O.mv rfl) ?_
    refine WP.s .n (O.fn fn140 (evs.c rfl (evs.c rfl evs.nil)) (c_mat_dot n u v (by first | assumption | omega) (by first | assumption | omega) (by first | assumption | omega) (by first | assumption | omega))) ?_
    refine WP.t .n (O.stW (l := kC) (u := dotV u v) 0 rfl rfl rfl ty31 rfl (VP.le_refl _)) ?_
    refine WP.s .n (O.asg rfl) ?_
    refine WP.nil ?_
    refine QE.next ?_
    refine CW.ret ?_
    have hne : u.length = v.length := by omega
    refine ST.obtold 0 rfl (OB.box_eq (y := (if u.length = v.length then dotV u v else 0)) (by rw [if_pos hne])) ?_
    refine ST.told 5 rfl (is_eq (y := (if u.length = v.length then 0 else 8)) (by rw [if_pos hne])) ?_
    exact QE.done (.inl rfl) rfl (ResOk.c rfl (mem_at 0 rfl) ty31 (ResOk.t rfl ResOk.nil)) (OImp.sub (List.nil_sublist _)) ⟨rfl, rfl⟩

end Fw


/- Plain facts: rows of one length; the order of rows; the first entry that is not 0. -/
set_option linter.unusedVariables false
set_option linter.unusedSimpArgs false
namespace Fw
open Go

theorem gde {α : Type} (l : List α) (d : α) {i : Nat} (h : i < l.length) : l.getD i d = l[i] := by simp [List.getD, h]
/-- rows of one length -/
def rect (b : List (List Int)) : Bool := b.all (fun r => r.length == (b.getD 0 []).length)
theorem rect_iff {b : List (List Int)} : rect b = true ↔ ∀ i, i < b.length → (b.getD i []).length = (b.getD 0 []).length := by
  simp only [rect, List.all_eq_true, beq_iff_eq]
  constructor
  · intro h i hi
    rw [gde _ _ hi]; exact h _ (List.getElem_mem hi)
  · intro h r hr
    obtain ⟨i, hi, rfl⟩ := List.mem_iff_getElem.mp hr
    rw [← h i hi, gde _ _ hi]
theorem rect_no {b : List (List Int)} {i : Nat} (hi : i < b.length) (h : (b.getD i []).length ≠ (b.getD 0 []).length) : ¬ rect b = true := fun e => h (rect_iff.1 e i hi)
/-- what Shape answers -/
def shN (b : List (List Int)) : Int := if rect b = true then (b.length : Int) else 0
def shM (b : List (List Int)) : Int := if rect b = true then ((b.getD 0 []).length : Int) else 0
def shE (b : List (List Int)) : Int := if rect b = true then 0 else 8
theorem sh_no {b : List (List Int)} {i : Nat} (hi : i < b.length) (h : (b.getD i []).length ≠ (b.getD 0 []).length) : shN b = 0 ∧ shM b = 0 ∧ shE b = 8 := by
  have := rect_no hi h
  simp only [shN, shM, shE, if_neg this]; simp
theorem sh_yes {b : List (List Int)} (h : ∀ i, i < b.length → (b.getD i []).length = (b.getD 0 []).length) : shN b = (b.length : Int) ∧ shM b = ((b.getD 0 []).length : Int) ∧ shE b = 0 := by
  have := rect_iff.2 h
  simp only [shN, shM, shE, if_pos this]; simp
theorem sh_nil {b : List (List Int)} (h : b.length = 0) : shN b = 0 ∧ shM b = 0 ∧ shE b = 0 := by
  have : b = [] := List.eq_nil_of_length_eq_zero h
  subst this; decide
/-- rows entry by entry -/
def ordV : List Int → List Int → Int
  | [], [] => 0
  | [], _ :: _ => -1
  | _ :: _, [] => 1
  | x :: u, y :: v => if (x - y).sign ≠ 0 then (x - y).sign else ordV u v
theorem ordV_hit {u v : List Int} {i : Nat} (hi : i < u.length) (hj : i < v.length) (h : (u.getD i 0 - v.getD i 0).sign ≠ 0) : ordV (u.drop i) (v.drop i) = (u.getD i 0 - v.getD i 0).sign := by
  rw [List.drop_eq_getElem_cons hi, List.drop_eq_getElem_cons hj, ordV, ← gde _ 0 hi, ← gde _ 0 hj, if_pos h]
theorem ordV_next {u v : List Int} {i : Nat} (hi : i < u.length) (hj : i < v.length) (h : ¬ (u.getD i 0 - v.getD i 0).sign ≠ 0) : ordV (u.drop i) (v.drop i) = ordV (u.drop (i + 1)) (v.drop (i + 1)) := by
  rw [List.drop_eq_getElem_cons hi, List.drop_eq_getElem_cons hj, ordV, ← gde _ 0 hi, ← gde _ 0 hj, if_neg h]
theorem ordV_end {u v : List Int} {i : Nat} (h : u.length ≤ i ∨ v.length ≤ i) (hu : i ≤ u.length) (hv : i ≤ v.length) : ordV (u.drop i) (v.drop i) = if u.length < v.length then -1 else if v.length < u.length then 1 else 0 := by
  by_cases h1 : i < u.length
  · have h2 : i = v.length := by omega
    rw [List.drop_eq_getElem_cons h1, List.drop_eq_nil_of_le (show v.length ≤ i by omega), ordV, if_neg (by omega), if_pos (by omega)]
  · by_cases h2 : i < v.length
    · rw [List.drop_eq_getElem_cons h2, List.drop_eq_nil_of_le (show u.length ≤ i by omega), ordV, if_pos (by omega)]
    · rw [List.drop_eq_nil_of_le (show u.length ≤ i by omega), List.drop_eq_nil_of_le (show v.length ≤ i by omega), ordV, if_neg (by omega), if_neg (by omega)]
theorem ordV_zero : ∀ {u v : List Int}, ordV u v = 0 ↔ u = v
  | [], [] => by simp [ordV]
  | [], _ :: _ => by simp [ordV]
  | _ :: _, [] => by simp [ordV]
  | x :: u, y :: v => by
    simp only [ordV]
    by_cases h : (x - y).sign = 0
    · rw [if_neg (by omega), ordV_zero]
      have := Int.sign_eq_zero_iff_zero.1 h
      have : x = y := by omega
      subst this; simp
    · rw [if_pos h]
      constructor
      · intro e; exact absurd e h
      · intro e; cases e; exact absurd (by simp) h

end Fw


/- Shape, order and first entries: what the functions answer. -/
set_option linter.unusedVariables false
set_option linter.unusedSimpArgs false
set_option exponentiation.threshold 400
namespace Fw
open Go Go.Proofs

set_option maxRecDepth 20000 in
set_option maxHeartbeats 1000000 in
theorem c_ref04_Order (n : Nat) (u v : List Int) (hu : SzL n u) (hv : SzL n v) (hn : n + n + 1 ≤ 549755813888) : Fn Try.prog 123 [(kSl kZ).is u, (kSl kZ).is v] ((kInt .i64).is (ordV u v)) := by
  refine Con.enter Try.func123 rfl rfl fun m w => ?_
  refine ST.fact (i := 0) rfl sl_len fun hB => ?_
  refine ST.fact (i := 1) rfl sl_len fun hC => ?_
  refine CW.seq ?_
  refine CW.region ?_
  refine WP.s .n (O.asg rfl) ?_
  refine WP.nil ?_
  refine QE.next ?_
  refine CW.seq ?_
  refine CW.seq ?_
  refine CW.region ?_
  refine WP.s .n (O.asg rfl) ?_
  refine WP.nil ?_
  refine QE.next ?_
  refine CW.block ?_
  refine CW.loop (fun (i : Nat) => i ≤ u.length ∧ i ≤ v.length ∧ ordV (u.drop i) (v.drop i) = ordV u v) (fun (i : Nat) => [(0, (kSl kZ).is u), (1, (kSl kZ).is v), (5, (kInt .i64).is (i : Int))]) (fun (i : Nat) => []) (fun (i : Nat) => u.length - i) 0 ⟨Nat.zero_le _, Nat.zero_le _, rfl⟩ (Imp.cons rfl (Imp.cons rfl (Imp.consLe rfl (is_eq (y := (0 : Int)) (by first | rfl | omega | assumption | (rw [← hl, ordV_end (by omega) (by omega) (by omega)]; split <;> first | rfl | omega | (split <;> first | rfl | omega)))) Imp.nil))) (OImp.refl _) ?_
  intro i ⟨hi, hj, hl⟩
  refine CW.seq ?_
  refine CW.seq ?_
  refine CW.region ?_
  refine WP.s .n (O.mv rfl) ?_
  refine WP.s .n (O.mv rfl) ?_
  refine WP.s .n (O.lenS rfl Try.underlying27) ?_
  refine WP.s .n (O.lt rfl rfl) ?_
  refine WP.s .n (O.mv rfl) ?_
  refine WP.splitD 11 rfl (fun h_t11 => ?_) (fun h_t11 => ?_)
  · refine WP.s (.g rfl rfl) (O.mv rfl) ?_
    refine WP.s (.g rfl rfl) (O.mv rfl) ?_
    refine WP.s (.g rfl rfl) (O.lenS rfl Try.underlying27) ?_
    refine WP.s (.g rfl rfl) (O.lt rfl rfl) ?_
    refine WP.s .n (O.pickT rfl rfl) ?_
    refine WP.nil ?_
    refine QE.next ?_
    refine CW.condD rfl (fun h_t16 => ?_) (fun h_t16 => ?_)
    · refine CW.skip ?_
      refine QE.next ?_
      refine CW.seq ?_
      refine CW.block ?_
      refine CW.seq ?_
      refine CW.draw (Γ := [.fr ((kSl kZ).is u), .fr ((kInt .i64).is (i : Int)), .fr (VP.pim kZ (u.getD i 0)), .fr (kZ.is (u.getD i 0)), .fr ((kSl kZ).is v), .fr ((kInt .i64).is (i : Int)), .fr (VP.pim kZ (v.getD i 0)), .fr (kZ.is (v.getD i 0)), .fr ((kInt .i64).is (((u.getD i 0) - (v.getD i 0)).sign))]) (lates := [false, false, false, false, false, false, false, false, false]) (by kernel_rfl) (Chk.of rfl (by kernel_rfl) rfl) (fun _ _ _ _ _ h => h) (fun q_ x_ h_ => ?_) (fun σ1 => ?_)
      · match q_, h_ with
        | 0, h_ => cases h_; exact Ob.f rfl .n fun N => (O.mv rfl)
        | 1, h_ => cases h_; exact Ob.f rfl .n fun N => (O.mv rfl)
        | 2, h_ => cases h_; exact Ob.f rfl .n fun N => (O.ix i rfl rfl Try.underlying27 ty31 rfl (v := (u.getD i 0)) (gd 0 (by omega)))
        | 3, h_ => cases h_; exact Ob.f rfl .n fun N => (O.ldP rfl ty31)
        | 4, h_ => cases h_; exact Ob.f rfl .n fun N => (O.mv rfl)
        | 5, h_ => cases h_; exact Ob.f rfl .n fun N => (O.mv rfl)
        | 6, h_ => cases h_; exact Ob.f rfl .n fun N => (O.ix i rfl rfl Try.underlying27 ty31 rfl (v := (v.getD i 0)) (gd 0 (by omega)))
        | 7, h_ => cases h_; exact Ob.f rfl .n fun N => (O.ldP rfl ty31)
        | 8, h_ => cases h_; exact Ob.f rfl .n fun N => (O.fn fn88 (evs.c rfl (evs.c rfl evs.nil)) (c_ref02_Cmp (u.getD i 0) (v.getD i 0) (((hu i).sub (hv i)).sm (by omega))))
        | n_ + 9, h_ => simp at h_
      refine WP.s .n (O.asg rfl) ?_
      refine WP.nil ?_
      refine QE.next ?_
      refine CW.seq ?_
      refine CW.region ?_
      refine WP.s .n (O.mv rfl) ?_
      refine WP.s .n (O.ne rfl rfl) ?_
      refine WP.nil ?_
      refine QE.next ?_
      refine CW.condD rfl (fun h_t29 => ?_) (fun h_t29 => ?_)
      · refine CW.seq ?_
        refine CW.region ?_
        refine WP.s .n (O.mv rfl) ?_
        refine WP.s .n (O.asg rfl) ?_
        refine WP.nil ?_
        refine QE.next ?_
        refine CW.ret ?_
        refine QE.blkR ?_
        refine QE.thenR ?_
        refine QE.thenR ?_
        refine QE.blkR ?_
        refine QE.thenR ?_
        refine ST.told 4 rfl (is_eq (y := (ordV u v)) (by rw [← hl]; exact (ordV_hit (by omega) (by omega) h_t29).symm)) ?_
        exact QE.done (.inl rfl) rfl (ResOk.t rfl ResOk.nil) (OImp.sub (List.nil_sublist _)) ⟨rfl, rfl⟩
      · refine CW.skip ?_
        refine QE.blkN ?_
        refine QE.next ?_
        refine CW.region ?_
        refine WP.s .n (O.mv rfl) ?_
        refine WP.s .n (O.add rfl rfl (c := ((i : Int) + 1)) (w64 (by omega))) ?_
        refine WP.s .n (O.asg rfl) ?_
        refine WP.nil ?_
        exact QE.round (i + 1) (by omega) ⟨by omega, by omega, by rw [← ordV_next (by omega) (by omega) h_t29]; exact hl⟩ (Imp.cons rfl (Imp.cons rfl (Imp.consLe rfl (is_eq (y := (((i + 1) : Nat) : Int)) (by first | rfl | omega | assumption | (rw [← hl, ordV_end (by omega) (by omega) (by omega)]; split <;> first | rfl | omega | (split <;> first | rfl | omega)))) Imp.nil))) (OImp.refl _)
    · refine CW.exit ?_
      refine QE.thenE ?_
      refine QE.thenE ?_
      refine QE.blkH ?_
      refine QE.next ?_
      refine CW.seq ?_
      refine CW.block ?_
      refine CW.seq ?_
      refine CW.region ?_
      refine WP.s .n (O.mv rfl) ?_
      refine WP.s .n (O.lenS rfl Try.underlying27) ?_
      refine WP.s .n (O.mv rfl) ?_
      refine WP.s .n (O.lenS rfl Try.underlying27) ?_
      refine WP.s .n (O.lt rfl rfl) ?_
      refine WP.s .n (O.asg rfl) ?_
      refine WP.nil ?_
      refine QE.next ?_
      refine CW.condD rfl (fun h_t31 => ?_) (fun h_t31 => ?_)
      · refine CW.seq ?_
        refine CW.region ?_
        refine WP.s .n (O.asg rfl) ?_
        refine WP.nil ?_
        refine QE.next ?_
        refine CW.ret ?_
        refine QE.blkR ?_
        refine QE.thenR ?_
        exact QE.done (.inl rfl) rfl (ResOk.tl rfl (is_eq (y := ordV u v) (by first | rfl | omega | assumption | (rw [← hl, ordV_end (by omega) (by omega) (by omega)]; split <;> first | rfl | omega | (split <;> first | rfl | omega)))) ResOk.nil) (OImp.sub (List.nil_sublist _)) ⟨rfl, rfl⟩
      · refine CW.seq ?_
        refine CW.region ?_
        refine WP.s .n (O.mv rfl) ?_
        refine WP.s .n (O.lenS rfl Try.underlying27) ?_
        refine WP.s .n (O.mv rfl) ?_
        refine WP.s .n (O.lenS rfl Try.underlying27) ?_
        refine WP.s .n (O.gt rfl rfl) ?_
        refine WP.s .n (O.asg rfl) ?_
        refine WP.nil ?_
        refine QE.next ?_
        refine CW.condD rfl (fun h_t37 => ?_) (fun h_t37 => ?_)
        · refine CW.seq ?_
          refine CW.region ?_
          refine WP.s .n (O.asg rfl) ?_
          refine WP.nil ?_
          refine QE.next ?_
          refine CW.ret ?_
          refine QE.blkR ?_
          refine QE.thenR ?_
          exact QE.done (.inl rfl) rfl (ResOk.tl rfl (is_eq (y := ordV u v) (by first | rfl | omega | assumption | (rw [← hl, ordV_end (by omega) (by omega) (by omega)]; split <;> first | rfl | omega | (split <;> first | rfl | omega)))) ResOk.nil) (OImp.sub (List.nil_sublist _)) ⟨rfl, rfl⟩
        · refine CW.skip ?_
          refine QE.blkN ?_
          refine QE.next ?_
          refine CW.seq ?_
          refine CW.region ?_
          refine WP.s .n (O.asg rfl) ?_
          refine WP.nil ?_
          refine QE.next ?_
          refine CW.ret ?_
          exact QE.done (.inl rfl) rfl (ResOk.tl rfl (is_eq (y := ordV u v) (by first | rfl | omega | assumption | (rw [← hl, ordV_end (by omega) (by omega) (by omega)]; split <;> first | rfl | omega | (split <;> first | rfl | omega)))) ResOk.nil) (OImp.sub (List.nil_sublist _)) ⟨rfl, rfl⟩
  · refine WP.ku (b := false) rfl rfl ?_
    refine WP.ku (b := false) rfl rfl ?_
    refine WP.ku (b := false) rfl rfl ?_
    refine WP.ku (b := false) rfl rfl ?_
    refine WP.s .n (O.pickF rfl rfl) ?_
    refine WP.nil ?_
    refine QE.next ?_
    refine CW.condF rfl ?_
    refine CW.exit ?_
    refine QE.thenE ?_
    refine QE.thenE ?_
    refine QE.blkH ?_
    refine QE.next ?_
    refine CW.seq ?_
    refine CW.block ?_
    refine CW.seq ?_
    refine CW.region ?_
    refine WP.s .n (O.mv rfl) ?_
    refine WP.s .n (O.lenS rfl Try.underlying27) ?_
    refine WP.s .n (O.mv rfl) ?_
    refine WP.s .n (O.lenS rfl Try.underlying27) ?_
    refine WP.s .n (O.lt rfl rfl) ?_
    refine WP.s .n (O.asg rfl) ?_
    refine WP.nil ?_
    refine QE.next ?_
    refine CW.condD rfl (fun h_t31 => ?_) (fun h_t31 => ?_)
    · refine CW.seq ?_
      refine CW.region ?_
      refine WP.s .n (O.asg rfl) ?_
      refine WP.nil ?_
      refine QE.next ?_
      refine CW.ret ?_
      refine QE.blkR ?_
      refine QE.thenR ?_
      exact QE.done (.inl rfl) rfl (ResOk.tl rfl (is_eq (y := ordV u v) (by first | rfl | omega | assumption | (rw [← hl, ordV_end (by omega) (by omega) (by omega)]; split <;> first | rfl | omega | (split <;> first | rfl | omega)))) ResOk.nil) (OImp.sub (List.nil_sublist _)) ⟨rfl, rfl⟩
    · refine CW.seq ?_
      refine CW.region ?_
      refine WP.s .n (O.mv rfl) ?_
      refine WP.s .n (O.lenS rfl Try.underlying27) ?_
      refine WP.s .n (O.mv rfl) ?_
      refine WP.s .n (O.lenS rfl Try.underlying27) ?_
      refine WP.s .n (O.gt rfl rfl) ?_
      refine WP.s .n (O.asg rfl) ?_
      refine WP.nil ?_
      refine QE.next ?_
      refine CW.condD rfl (fun h_t37 => ?_) (fun h_t37 => ?_)
      · refine CW.seq ?_
        refine CW.region ?_
        refine WP.s .n (O.asg rfl) ?_
        refine WP.nil ?_
        refine QE.next ?_
        refine CW.ret ?_
        refine QE.blkR ?_
        refine QE.thenR ?_
        exact QE.done (.inl rfl) rfl (ResOk.tl rfl (is_eq (y := ordV u v) (by first | rfl | omega | assumption | (rw [← hl, ordV_end (by omega) (by omega) (by omega)]; split <;> first | rfl | omega | (split <;> first | rfl | omega)))) ResOk.nil) (OImp.sub (List.nil_sublist _)) ⟨rfl, rfl⟩
      · refine CW.skip ?_
        refine QE.blkN ?_
        refine QE.next ?_
        refine CW.seq ?_
        refine CW.region ?_
        refine WP.s .n (O.asg rfl) ?_
        refine WP.nil ?_
        refine QE.next ?_
        refine CW.ret ?_
        exact QE.done (.inl rfl) rfl (ResOk.tl rfl (is_eq (y := ordV u v) (by first | rfl | omega | assumption | (rw [← hl, ordV_end (by omega) (by omega) (by omega)]; split <;> first | rfl | omega | (split <;> first | rfl | omega)))) ResOk.nil) (OImp.sub (List.nil_sublist _)) ⟨rfl, rfl⟩

set_option maxRecDepth 20000 in
set_option maxHeartbeats 1000000 in
theorem c_mat_Shape (b : List (List Int)) : Fn Try.prog 135 [(kSl (kSl kZ)).is b] (VP.tup [(kInt .i64).is (shN b), (kInt .i64).is (shM b), (kInt .i64).is (shE b)]) := by
  refine Con.enter Try.func135 rfl rfl fun m w => ?_
  refine ST.fact (i := 0) rfl sl_len fun hB => ?_
  refine CW.seq ?_
  refine CW.region ?_
  refine WP.s .n (O.asg rfl) ?_
  refine WP.s .n (O.asg rfl) ?_
  refine WP.s .n (O.asg rfl) ?_
  refine WP.nil ?_
  refine QE.next ?_
  refine CW.seq ?_
  refine CW.seq ?_
  refine CW.region ?_
  refine WP.s .n (O.mv rfl) ?_
  refine WP.s .n (O.lenS rfl Try.underlying67) ?_
  refine WP.s .n (O.eq rfl rfl) ?_
  refine WP.nil ?_
  refine QE.next ?_
  refine CW.condD rfl (fun h_t9 => ?_) (fun h_t9 => ?_)
  · refine CW.seq ?_
    refine CW.region ?_
    refine WP.s .n (O.asg rfl) ?_
    refine WP.s .n (O.asg rfl) ?_
    refine WP.s .n (O.asg rfl) ?_
    refine WP.nil ?_
    refine QE.next ?_
    refine CW.ret ?_
    refine QE.thenR ?_
    have hx := sh_nil (b := b) (by omega)
    refine ST.told 2 rfl (is_eq (y := (shN b)) (by rw [hx.1])) ?_
    refine ST.told 3 rfl (is_eq (y := (shM b)) (by rw [hx.2.1])) ?_
    refine ST.told 4 rfl (is_eq (y := (shE b)) (by rw [hx.2.2])) ?_
    exact QE.done (.inl rfl) rfl (ResOk.t rfl (ResOk.t rfl (ResOk.t rfl ResOk.nil))) (OImp.sub (List.nil_sublist _)) ⟨rfl, rfl⟩
  · refine CW.skip ?_
    refine QE.next ?_
    refine CW.seq ?_
    refine CW.seq ?_
    refine CW.region ?_
    refine WP.s .n (O.mv rfl) ?_
    refine WP.s .n (O.lenS rfl Try.underlying67) ?_
    refine WP.s .n (O.mv rfl) ?_
    refine WP.nil ?_
    refine QE.next ?_
    refine CW.block ?_
    refine CW.loop (fun (i : Nat) => i ≤ b.length ∧ ∀ j, j < i → (b.getD j []).length = (b.getD 0 []).length) (fun (i : Nat) => [(0, (kSl (kSl kZ)).is b), (10, (kSl (kSl kZ)).is b), (11, (kInt .i64).is (b.length : Int)), (12, (kInt .i64).is (i : Int))]) (fun (i : Nat) => []) (fun (i : Nat) => b.length - i) 0 ⟨Nat.zero_le _, fun j hj => absurd hj (by omega)⟩ (Imp.cons rfl (Imp.cons rfl (Imp.cons rfl (Imp.consLe rfl (is_eq (y := (0 : Int)) (by first | rfl | omega | assumption)) Imp.nil)))) (OImp.refl _) ?_
    intro i ⟨hi, hl⟩
    refine CW.seq ?_
    refine CW.region ?_
    refine WP.s .n (O.lt rfl rfl) ?_
    refine WP.nil ?_
    refine QE.next ?_
    refine CW.seq ?_
    refine CW.condD rfl (fun h_t13 => ?_) (fun h_t13 => ?_)
    · refine CW.skip ?_
      refine QE.next ?_
      refine CW.seq ?_
      refine CW.block ?_
      refine CW.seq ?_
      refine CW.region ?_
      refine WP.s .n (O.ix i rfl rfl Try.underlying67 ty27 rfl (v := (b.getD i [])) (gd [] (by omega))) ?_
      refine WP.s .n (O.ldP rfl ty27) ?_
      refine WP.s .n (O.asg rfl) ?_
      refine WP.nil ?_
      refine QE.next ?_
      refine CW.seq ?_
      refine CW.region ?_
      refine WP.s .n (O.mv rfl) ?_
      refine WP.s .n (O.lenS rfl Try.underlying27) ?_
      refine WP.s .n (O.mv rfl) ?_
      refine WP.s .n (O.ix 0 rfl rfl Try.underlying67 ty27 rfl (v := (b.getD 0 [])) (gd [] (by omega))) ?_
      refine WP.s .n (O.ldP rfl ty27) ?_
      refine WP.s .n (O.lenS rfl Try.underlying27) ?_
      refine WP.s .n (O.ne rfl rfl) ?_
      refine WP.nil ?_
      refine QE.next ?_
      refine CW.condD rfl (fun h_t22 => ?_) (fun h_t22 => ?_)
      · refine CW.seq ?_
        refine CW.region ?_
        refine WP.s .n (O.asg rfl) ?_
        refine WP.s .n (O.asg rfl) ?_
        refine WP.s .n (O.asg rfl) ?_
        refine WP.nil ?_
        refine QE.next ?_
        refine CW.ret ?_
        refine QE.blkR ?_
        refine QE.thenR ?_
        refine QE.thenR ?_
        refine QE.blkR ?_
        refine QE.thenR ?_
        have hx := sh_no (b := b) (i := i) (by omega) (by omega)
        refine ST.told 2 rfl (is_eq (y := (shN b)) (by rw [hx.1])) ?_
        refine ST.told 3 rfl (is_eq (y := (shM b)) (by rw [hx.2.1])) ?_
        refine ST.told 4 rfl (is_eq (y := (shE b)) (by rw [hx.2.2])) ?_
        exact QE.done (.inl rfl) rfl (ResOk.t rfl (ResOk.t rfl (ResOk.t rfl ResOk.nil))) (OImp.sub (List.nil_sublist _)) ⟨rfl, rfl⟩
      · refine CW.skip ?_
        refine QE.blkN ?_
        refine QE.next ?_
        refine CW.region ?_
        refine WP.s .n (O.add rfl rfl (c := ((i : Int) + 1)) (w64 (by omega))) ?_
        refine WP.s .n (O.mv rfl) ?_
        refine WP.nil ?_
        exact QE.round (i + 1) (by omega) ⟨by omega, fun j hj => if e : j = i then by subst e; omega else hl j (by omega)⟩ (Imp.cons rfl (Imp.cons rfl (Imp.cons rfl (Imp.consLe rfl (is_eq (y := (((i + 1) : Nat) : Int)) (by first | rfl | omega | assumption)) Imp.nil)))) (OImp.refl _)
    · refine CW.exit ?_
      refine QE.thenE ?_
      refine QE.thenE ?_
      refine QE.blkH ?_
      refine QE.next ?_
      refine CW.seq ?_
      refine CW.join [(0, (kSl (kSl kZ)).is b), (2, (kInt .i64).is (b.length : Int)), (3, (kInt .i64).is ((b.getD 0 []).length : Int)), (4, (kInt .i64).is 0), (10, (kSl (kSl kZ)).is b), (11, (kInt .i64).is (b.length : Int)), (12, (kInt .i64).is (i : Int)), (13, kBool.is (decide ((i : Int) < (b.length : Int)))), (24, (kSl (kSl kZ)).is b), (25, (kInt .i64).is (b.length : Int)), (26, (kSl (kSl kZ)).is b), (27, VP.pim (kSl kZ) (b.getD 0 [])), (28, (kSl kZ).is (b.getD 0 [])), (29, (kInt .i64).is ((b.getD 0 []).length : Int))] [] ?_ ?_
      · refine CW.any (by kernel_rfl) ?_
        refine DA.first 0 rfl (by kernel_rfl) (by kernel_rfl) (by kernel_rfl) (fun _ _ _ _ _ h => h) .n (OV.mv rfl) ?_
        refine DA.first 2 rfl (by kernel_rfl) (by kernel_rfl) (by kernel_rfl) (fun _ _ _ _ _ h => h) .n (OV.mv rfl) ?_
        refine DA.go 1 [3] (by kernel_rfl) ⟨?_, ⟨?_, trivial⟩⟩
        · refine DO.w rfl ?_
          refine WP.s .n (O.lenS rfl Try.underlying67) ?_
          refine WP.nil ?_
          refine DO.nx ?_
          refine DA.go 3 [6] (by kernel_rfl) ⟨?_, ⟨?_, trivial⟩⟩
          · refine DO.w rfl ?_
            refine WP.s .n (O.ix 0 rfl rfl Try.underlying67 ty27 rfl (v := (b.getD 0 [])) (gd [] (by omega))) ?_
            refine WP.nil ?_
            refine DO.nx ?_
            refine DA.go 4 [6] (by kernel_rfl) ⟨?_, ⟨?_, trivial⟩⟩
            · refine DO.w rfl ?_
              refine WP.s .n (O.ldP rfl ty27) ?_
              refine WP.nil ?_
              refine DO.nx ?_
              refine DA.go 5 [6] (by kernel_rfl) ⟨?_, ⟨?_, trivial⟩⟩
              · refine DO.w rfl ?_
                refine WP.s .n (O.lenS rfl Try.underlying27) ?_
                refine WP.nil ?_
                refine DO.nx ?_
                refine DA.go 6 [] (by kernel_rfl) ⟨?_, trivial⟩
                refine DO.w rfl ?_
                refine WP.s .n (O.asg rfl) ?_
                refine WP.nil ?_
                refine DO.nx ?_
                refine DA.go 7 [] (by kernel_rfl) ⟨?_, trivial⟩
                refine DO.w rfl ?_
                refine WP.s .n (O.asg rfl) ?_
                refine WP.nil ?_
                refine DO.nx ?_
                refine DA.go 8 [] (by kernel_rfl) ⟨?_, trivial⟩
                refine DO.w rfl ?_
                refine WP.s .n (O.asg rfl) ?_
                refine WP.nil ?_
                refine DO.nx ?_
                refine DA.nil (by kernel_rfl) ?_
                exact QE.join (Imp.cons rfl (Imp.cons rfl (Imp.cons rfl (Imp.cons rfl (Imp.cons rfl (Imp.cons rfl (Imp.cons rfl (Imp.cons rfl (Imp.cons rfl (Imp.cons rfl (Imp.cons rfl (Imp.cons rfl (Imp.cons rfl (Imp.cons rfl Imp.nil)))))))))))))) (OImp.refl _)
              · refine DO.w rfl ?_
                refine WP.s .n (O.asg rfl) ?_
                refine WP.nil ?_
                refine DO.nx ?_
                refine DA.go 5 [] (by kernel_rfl) ⟨?_, trivial⟩
                refine DO.w rfl ?_
                refine WP.s .n (O.lenS rfl Try.underlying27) ?_
                refine WP.nil ?_
                refine DO.nx ?_
                refine DA.go 7 [] (by kernel_rfl) ⟨?_, trivial⟩
                refine DO.w rfl ?_
                refine WP.s .n (O.asg rfl) ?_
                refine WP.nil ?_
                refine DO.nx ?_
                refine DA.go 8 [] (by kernel_rfl) ⟨?_, trivial⟩
                refine DO.w rfl ?_
                refine WP.s .n (O.asg rfl) ?_
                refine WP.nil ?_
                refine DO.nx ?_
                refine DA.nil (by kernel_rfl) ?_
                exact QE.join (Imp.cons rfl (Imp.cons rfl (Imp.cons rfl (Imp.cons rfl (Imp.cons rfl (Imp.cons rfl (Imp.cons rfl (Imp.cons rfl (Imp.cons rfl (Imp.cons rfl (Imp.cons rfl (Imp.cons rfl (Imp.cons rfl (Imp.cons rfl Imp.nil)))))))))))))) (OImp.refl _)
            · refine DO.w rfl ?_
              refine WP.s .n (O.asg rfl) ?_
              refine WP.nil ?_
              refine DO.nx ?_
              refine DA.go 4 [] (by kernel_rfl) ⟨?_, trivial⟩
              refine DO.w rfl ?_
              refine WP.s .n (O.ldP rfl ty27) ?_
              refine WP.nil ?_
              refine DO.nx ?_
              refine DA.go 5 [] (by kernel_rfl) ⟨?_, trivial⟩
              refine DO.w rfl ?_
              refine WP.s .n (O.lenS rfl Try.underlying27) ?_
              refine WP.nil ?_
              refine DO.nx ?_
              refine DA.go 7 [] (by kernel_rfl) ⟨?_, trivial⟩
              refine DO.w rfl ?_
              refine WP.s .n (O.asg rfl) ?_
              refine WP.nil ?_
              refine DO.nx ?_
              refine DA.go 8 [] (by kernel_rfl) ⟨?_, trivial⟩
              refine DO.w rfl ?_
              refine WP.s .n (O.asg rfl) ?_
              refine WP.nil ?_
              refine DO.nx ?_
              refine DA.nil (by kernel_rfl) ?_
              exact QE.join (Imp.cons rfl (Imp.cons rfl (Imp.cons rfl (Imp.cons rfl (Imp.cons rfl (Imp.cons rfl (Imp.cons rfl (Imp.cons rfl (Imp.cons rfl (Imp.cons rfl (Imp.cons rfl (Imp.cons rfl (Imp.cons rfl (Imp.cons rfl Imp.nil)))))))))))))) (OImp.refl _)
          · refine DO.w rfl ?_
            refine WP.s .n (O.asg rfl) ?_
            refine WP.nil ?_
            refine DO.nx ?_
            refine DA.go 3 [] (by kernel_rfl) ⟨?_, trivial⟩
            refine DO.w rfl ?_
            refine WP.s .n (O.ix 0 rfl rfl Try.underlying67 ty27 rfl (v := (b.getD 0 [])) (gd [] (by omega))) ?_
            refine WP.nil ?_
            refine DO.nx ?_
            refine DA.go 4 [] (by kernel_rfl) ⟨?_, trivial⟩
            refine DO.w rfl ?_
            refine WP.s .n (O.ldP rfl ty27) ?_
            refine WP.nil ?_
            refine DO.nx ?_
            refine DA.go 5 [] (by kernel_rfl) ⟨?_, trivial⟩
            refine DO.w rfl ?_
            refine WP.s .n (O.lenS rfl Try.underlying27) ?_
            refine WP.nil ?_
            refine DO.nx ?_
            refine DA.go 7 [] (by kernel_rfl) ⟨?_, trivial⟩
            refine DO.w rfl ?_
            refine WP.s .n (O.asg rfl) ?_
            refine WP.nil ?_
            refine DO.nx ?_
            refine DA.go 8 [] (by kernel_rfl) ⟨?_, trivial⟩
            refine DO.w rfl ?_
            refine WP.s .n (O.asg rfl) ?_
            refine WP.nil ?_
            refine DO.nx ?_
            refine DA.nil (by kernel_rfl) ?_
            exact QE.join (Imp.cons rfl (Imp.cons rfl (Imp.cons rfl (Imp.cons rfl (Imp.cons rfl (Imp.cons rfl (Imp.cons rfl (Imp.cons rfl (Imp.cons rfl (Imp.cons rfl (Imp.cons rfl (Imp.cons rfl (Imp.cons rfl (Imp.cons rfl Imp.nil)))))))))))))) (OImp.refl _)
        · refine DO.w rfl ?_
          refine WP.s .n (O.ix 0 rfl rfl Try.underlying67 ty27 rfl (v := (b.getD 0 [])) (gd [] (by omega))) ?_
          refine WP.nil ?_
          refine DO.nx ?_
          refine DA.go 1 [4] (by kernel_rfl) ⟨?_, ⟨?_, trivial⟩⟩
          · refine DO.w rfl ?_
            refine WP.s .n (O.lenS rfl Try.underlying67) ?_
            refine WP.nil ?_
            refine DO.nx ?_
            refine DA.go 4 [6] (by kernel_rfl) ⟨?_, ⟨?_, trivial⟩⟩
            · refine DO.w rfl ?_
              refine WP.s .n (O.ldP rfl ty27) ?_
              refine WP.nil ?_
              refine DO.nx ?_
              refine DA.go 5 [6] (by kernel_rfl) ⟨?_, ⟨?_, trivial⟩⟩
              · refine DO.w rfl ?_
                refine WP.s .n (O.lenS rfl Try.underlying27) ?_
                refine WP.nil ?_
                refine DO.nx ?_
                refine DA.go 6 [] (by kernel_rfl) ⟨?_, trivial⟩
                refine DO.w rfl ?_
                refine WP.s .n (O.asg rfl) ?_
                refine WP.nil ?_
                refine DO.nx ?_
                refine DA.go 7 [] (by kernel_rfl) ⟨?_, trivial⟩
                refine DO.w rfl ?_
                refine WP.s .n (O.asg rfl) ?_
                refine WP.nil ?_
                refine DO.nx ?_
                refine DA.go 8 [] (by kernel_rfl) ⟨?_, trivial⟩
                refine DO.w rfl ?_
                refine WP.s .n (O.asg rfl) ?_
                refine WP.nil ?_
                refine DO.nx ?_
                refine DA.nil (by kernel_rfl) ?_
                exact QE.join (Imp.cons rfl (Imp.cons rfl (Imp.cons rfl (Imp.cons rfl (Imp.cons rfl (Imp.cons rfl (Imp.cons rfl (Imp.cons rfl (Imp.cons rfl (Imp.cons rfl (Imp.cons rfl (Imp.cons rfl (Imp.cons rfl (Imp.cons rfl Imp.nil)))))))))))))) (OImp.refl _)
              · refine DO.w rfl ?_
                refine WP.s .n (O.asg rfl) ?_
                refine WP.nil ?_
                refine DO.nx ?_
                refine DA.go 5 [] (by kernel_rfl) ⟨?_, trivial⟩
                refine DO.w rfl ?_
                refine WP.s .n (O.lenS rfl Try.underlying27) ?_
                refine WP.nil ?_
                refine DO.nx ?_
                refine DA.go 7 [] (by kernel_rfl) ⟨?_, trivial⟩
                refine DO.w rfl ?_
                refine WP.s .n (O.asg rfl) ?_
                refine WP.nil ?_
                refine DO.nx ?_
                refine DA.go 8 [] (by kernel_rfl) ⟨?_, trivial⟩
                refine DO.w rfl ?_
                refine WP.s .n (O.asg rfl) ?_
                refine WP.nil ?_
                refine DO.nx ?_
                refine DA.nil (by kernel_rfl) ?_
                exact QE.join (Imp.cons rfl (Imp.cons rfl (Imp.cons rfl (Imp.cons rfl (Imp.cons rfl (Imp.cons rfl (Imp.cons rfl (Imp.cons rfl (Imp.cons rfl (Imp.cons rfl (Imp.cons rfl (Imp.cons rfl (Imp.cons rfl (Imp.cons rfl Imp.nil)))))))))))))) (OImp.refl _)
            · refine DO.w rfl ?_
              refine WP.s .n (O.asg rfl) ?_
              refine WP.nil ?_
              refine DO.nx ?_
              refine DA.go 4 [] (by kernel_rfl) ⟨?_, trivial⟩
              refine DO.w rfl ?_
              refine WP.s .n (O.ldP rfl ty27) ?_
              refine WP.nil ?_
              refine DO.nx ?_
              refine DA.go 5 [] (by kernel_rfl) ⟨?_, trivial⟩
              refine DO.w rfl ?_
              refine WP.s .n (O.lenS rfl Try.underlying27) ?_
              refine WP.nil ?_
              refine DO.nx ?_
              refine DA.go 7 [] (by kernel_rfl) ⟨?_, trivial⟩
              refine DO.w rfl ?_
              refine WP.s .n (O.asg rfl) ?_
              refine WP.nil ?_
              refine DO.nx ?_
              refine DA.go 8 [] (by kernel_rfl) ⟨?_, trivial⟩
              refine DO.w rfl ?_
              refine WP.s .n (O.asg rfl) ?_
              refine WP.nil ?_
              refine DO.nx ?_
              refine DA.nil (by kernel_rfl) ?_
              exact QE.join (Imp.cons rfl (Imp.cons rfl (Imp.cons rfl (Imp.cons rfl (Imp.cons rfl (Imp.cons rfl (Imp.cons rfl (Imp.cons rfl (Imp.cons rfl (Imp.cons rfl (Imp.cons rfl (Imp.cons rfl (Imp.cons rfl (Imp.cons rfl Imp.nil)))))))))))))) (OImp.refl _)
          · refine DO.w rfl ?_
            refine WP.s .n (O.ldP rfl ty27) ?_
            refine WP.nil ?_
            refine DO.nx ?_
            refine DA.go 1 [5] (by kernel_rfl) ⟨?_, ⟨?_, trivial⟩⟩
            · refine DO.w rfl ?_
              refine WP.s .n (O.lenS rfl Try.underlying67) ?_
              refine WP.nil ?_
              refine DO.nx ?_
              refine DA.go 5 [6] (by kernel_rfl) ⟨?_, ⟨?_, trivial⟩⟩
              · refine DO.w rfl ?_
                refine WP.s .n (O.lenS rfl Try.underlying27) ?_
                refine WP.nil ?_
                refine DO.nx ?_
                refine DA.go 6 [] (by kernel_rfl) ⟨?_, trivial⟩
                refine DO.w rfl ?_
                refine WP.s .n (O.asg rfl) ?_
                refine WP.nil ?_
                refine DO.nx ?_
                refine DA.go 7 [] (by kernel_rfl) ⟨?_, trivial⟩
                refine DO.w rfl ?_
                refine WP.s .n (O.asg rfl) ?_
                refine WP.nil ?_
                refine DO.nx ?_
                refine DA.go 8 [] (by kernel_rfl) ⟨?_, trivial⟩
                refine DO.w rfl ?_
                refine WP.s .n (O.asg rfl) ?_
                refine WP.nil ?_
                refine DO.nx ?_
                refine DA.nil (by kernel_rfl) ?_
                exact QE.join (Imp.cons rfl (Imp.cons rfl (Imp.cons rfl (Imp.cons rfl (Imp.cons rfl (Imp.cons rfl (Imp.cons rfl (Imp.cons rfl (Imp.cons rfl (Imp.cons rfl (Imp.cons rfl (Imp.cons rfl (Imp.cons rfl (Imp.cons rfl Imp.nil)))))))))))))) (OImp.refl _)
              · refine DO.w rfl ?_
                refine WP.s .n (O.asg rfl) ?_
                refine WP.nil ?_
                refine DO.nx ?_
                refine DA.go 5 [] (by kernel_rfl) ⟨?_, trivial⟩
                refine DO.w rfl ?_
                refine WP.s .n (O.lenS rfl Try.underlying27) ?_
                refine WP.nil ?_
                refine DO.nx ?_
                refine DA.go 7 [] (by kernel_rfl) ⟨?_, trivial⟩
                refine DO.w rfl ?_
                refine WP.s .n (O.asg rfl) ?_
                refine WP.nil ?_
                refine DO.nx ?_
                refine DA.go 8 [] (by kernel_rfl) ⟨?_, trivial⟩
                refine DO.w rfl ?_
                refine WP.s .n (O.asg rfl) ?_
                refine WP.nil ?_
                refine DO.nx ?_
                refine DA.nil (by kernel_rfl) ?_
                exact QE.join (Imp.cons rfl (Imp.cons rfl (Imp.cons rfl (Imp.cons rfl (Imp.cons rfl (Imp.cons rfl (Imp.cons rfl (Imp.cons rfl (Imp.cons rfl (Imp.cons rfl (Imp.cons rfl (Imp.cons rfl (Imp.cons rfl (Imp.cons rfl Imp.nil)))))))))))))) (OImp.refl _)
            · refine DO.w rfl ?_
              refine WP.s .n (O.lenS rfl Try.underlying27) ?_
              refine WP.nil ?_
              refine DO.nx ?_
              refine DA.go 1 [] (by kernel_rfl) ⟨?_, trivial⟩
              refine DO.w rfl ?_
              refine WP.s .n (O.lenS rfl Try.underlying67) ?_
              refine WP.nil ?_
              refine DO.nx ?_
              refine DA.go 6 [] (by kernel_rfl) ⟨?_, trivial⟩
              refine DO.w rfl ?_
              refine WP.s .n (O.asg rfl) ?_
              refine WP.nil ?_
              refine DO.nx ?_
              refine DA.go 7 [] (by kernel_rfl) ⟨?_, trivial⟩
              refine DO.w rfl ?_
              refine WP.s .n (O.asg rfl) ?_
              refine WP.nil ?_
              refine DO.nx ?_
              refine DA.go 8 [] (by kernel_rfl) ⟨?_, trivial⟩
              refine DO.w rfl ?_
              refine WP.s .n (O.asg rfl) ?_
              refine WP.nil ?_
              refine DO.nx ?_
              refine DA.nil (by kernel_rfl) ?_
              exact QE.join (Imp.cons rfl (Imp.cons rfl (Imp.cons rfl (Imp.cons rfl (Imp.cons rfl (Imp.cons rfl (Imp.cons rfl (Imp.cons rfl (Imp.cons rfl (Imp.cons rfl (Imp.cons rfl (Imp.cons rfl (Imp.cons rfl (Imp.cons rfl Imp.nil)))))))))))))) (OImp.refl _)
      refine QE.next ?_
      refine CW.ret ?_
      have hx := sh_yes (b := b) (fun j hj => hl j (by omega))
      refine ST.told 2 rfl (is_eq (y := (shN b)) (by rw [hx.1])) ?_
      refine ST.told 3 rfl (is_eq (y := (shM b)) (by rw [hx.2.1])) ?_
      refine ST.told 4 rfl (is_eq (y := (shE b)) (by rw [hx.2.2])) ?_
      exact QE.done (.inl rfl) rfl (ResOk.t rfl (ResOk.t rfl (ResOk.t rfl ResOk.nil))) (OImp.sub (List.nil_sublist _)) ⟨rfl, rfl⟩

set_option maxRecDepth 20000 in
set_option maxHeartbeats 1000000 in
theorem c_ref04_Shape (b : List (List Int)) : Fn Try.prog 172 [(kSl (kSl kZ)).is b] (VP.tup [(kInt .i64).is (shN b), (kInt .i64).is (shM b), (kInt .i64).is (shE b)]) := by
  refine Con.enter Try.func172 rfl rfl fun m w => ?_
  refine ST.fact (i := 0) rfl sl_len fun hB => ?_
  refine CW.seq ?_
  refine CW.region ?_
  refine WP.s .n (O.asg rfl) ?_
  refine WP.s .n (O.asg rfl) ?_
  refine WP.s .n (O.asg rfl) ?_
  refine WP.nil ?_
  refine QE.next ?_
  refine CW.seq ?_
  refine CW.seq ?_
  refine CW.region ?_
  refine WP.s .n (O.asg rfl) ?_
  refine WP.nil ?_
  refine QE.next ?_
  refine CW.block ?_
  refine CW.loop (fun (i : Nat) => i ≤ b.length ∧ ∀ j, j < i → (b.getD j []).length = (b.getD 0 []).length) (fun (i : Nat) => [(0, (kSl (kSl kZ)).is b), (5, (kInt .i64).is (i : Int))]) (fun (i : Nat) => []) (fun (i : Nat) => b.length - i) 0 ⟨Nat.zero_le _, fun j hj => absurd hj (by omega)⟩ (Imp.cons rfl (Imp.consLe rfl (is_eq (y := (0 : Int)) (by first | rfl | omega | assumption)) Imp.nil)) (OImp.refl _) ?_
  intro i ⟨hi, hl⟩
  refine CW.seq ?_
  refine CW.seq ?_
  refine CW.region ?_
  refine WP.s .n (O.mv rfl) ?_
  refine WP.s .n (O.mv rfl) ?_
  refine WP.s .n (O.lenS rfl Try.underlying67) ?_
  refine WP.s .n (O.lt rfl rfl) ?_
  refine WP.nil ?_
  refine QE.next ?_
  refine CW.condD rfl (fun h_t9 => ?_) (fun h_t9 => ?_)
  · refine CW.skip ?_
    refine QE.next ?_
    refine CW.seq ?_
    refine CW.block ?_
    refine CW.seq ?_
    refine CW.draw (Γ := [.fr ((kSl (kSl kZ)).is b), .fr ((kInt .i64).is (i : Int)), .fr (VP.pim (kSl kZ) (b.getD i [])), .fr ((kSl kZ).is (b.getD i [])), .fr ((kInt .i64).is ((b.getD i []).length : Int)), .fr ((kSl (kSl kZ)).is b), .fr (VP.pim (kSl kZ) (b.getD 0 [])), .fr ((kSl kZ).is (b.getD 0 [])), .fr ((kInt .i64).is ((b.getD 0 []).length : Int)), .fr (kBool.is (decide (((b.getD i []).length : Int) ≠ ((b.getD 0 []).length : Int))))]) (lates := [false, false, false, false, false, false, false, false, false, false]) (by kernel_rfl) (Chk.of rfl (by kernel_rfl) rfl) (fun _ _ _ _ _ h => h) (fun q_ x_ h_ => ?_) (fun σ1 => ?_)
    · match q_, h_ with
      | 0, h_ => cases h_; exact Ob.f rfl .n fun N => (O.mv rfl)
      | 1, h_ => cases h_; exact Ob.f rfl .n fun N => (O.mv rfl)
      | 2, h_ => cases h_; exact Ob.f rfl .n fun N => (O.ix i rfl rfl Try.underlying67 ty27 rfl (v := (b.getD i [])) (gd [] (by omega)))
      | 3, h_ => cases h_; exact Ob.f rfl .n fun N => (O.ldP rfl ty27)
      | 4, h_ => cases h_; exact Ob.f rfl .n fun N => (O.lenS rfl Try.underlying27)
      | 5, h_ => cases h_; exact Ob.f rfl .n fun N => (O.mv rfl)
      | 6, h_ => cases h_; exact Ob.f rfl .n fun N => (O.ix 0 rfl rfl Try.underlying67 ty27 rfl (v := (b.getD 0 [])) (gd [] (by omega)))
      | 7, h_ => cases h_; exact Ob.f rfl .n fun N => (O.ldP rfl ty27)
      | 8, h_ => cases h_; exact Ob.f rfl .n fun N => (O.lenS rfl Try.underlying27)
      | 9, h_ => cases h_; exact Ob.f rfl .n fun N => (O.ne rfl rfl)
      | n_ + 10, h_ => simp at h_
    refine WP.nil ?_
    refine QE.next ?_
    refine CW.condD rfl (fun h_t21 => ?_) (fun h_t21 => ?_)
    · refine CW.seq ?_
      refine CW.region ?_
      refine WP.s .n (O.asg rfl) ?_
      refine WP.s .n (O.asg rfl) ?_
      refine WP.s .n (O.asg rfl) ?_
      refine WP.nil ?_
      refine QE.next ?_
      refine CW.ret ?_
      refine QE.blkR ?_
      refine QE.thenR ?_
      refine QE.thenR ?_
      refine QE.blkR ?_
      refine QE.thenR ?_
      have hx := sh_no (b := b) (i := i) (by omega) (by omega)
      refine ST.told 2 rfl (is_eq (y := (shN b)) (by rw [hx.1])) ?_
      refine ST.told 3 rfl (is_eq (y := (shM b)) (by rw [hx.2.1])) ?_
      refine ST.told 4 rfl (is_eq (y := (shE b)) (by rw [hx.2.2])) ?_
      exact QE.done (.inl rfl) rfl (ResOk.t rfl (ResOk.t rfl (ResOk.t rfl ResOk.nil))) (OImp.sub (List.nil_sublist _)) ⟨rfl, rfl⟩
    · refine CW.skip ?_
      refine QE.blkN ?_
      refine QE.next ?_
      refine CW.region ?_
      refine WP.s .n (O.mv rfl) ?_
      refine WP.s .n (O.add rfl rfl (c := ((i : Int) + 1)) (w64 (by omega))) ?_
      refine WP.s .n (O.asg rfl) ?_
      refine WP.nil ?_
      exact QE.round (i + 1) (by omega) ⟨by omega, fun j hj => if e : j = i then by subst e; omega else hl j (by omega)⟩ (Imp.cons rfl (Imp.consLe rfl (is_eq (y := (((i + 1) : Nat) : Int)) (by first | rfl | omega | assumption)) Imp.nil)) (OImp.refl _)
  · refine CW.exit ?_
    refine QE.thenE ?_
    refine QE.thenE ?_
    refine QE.blkH ?_
    refine QE.next ?_
    refine CW.seq ?_
    refine CW.seq ?_
    refine CW.region ?_
    refine WP.s .n (O.mv rfl) ?_
    refine WP.s .n (O.lenS rfl Try.underlying67) ?_
    refine WP.s .n (O.eq rfl rfl) ?_
    refine WP.nil ?_
    refine QE.next ?_
    refine CW.condD rfl (fun h_t24 => ?_) (fun h_t24 => ?_)
    · refine CW.seq ?_
      refine CW.region ?_
      refine WP.s .n (O.asg rfl) ?_
      refine WP.s .n (O.asg rfl) ?_
      refine WP.s .n (O.asg rfl) ?_
      refine WP.nil ?_
      refine QE.next ?_
      refine CW.ret ?_
      refine QE.thenR ?_
      have hx := sh_nil (b := b) (by omega)
      refine ST.told 2 rfl (is_eq (y := (shN b)) (by rw [hx.1])) ?_
      refine ST.told 3 rfl (is_eq (y := (shM b)) (by rw [hx.2.1])) ?_
      refine ST.told 4 rfl (is_eq (y := (shE b)) (by rw [hx.2.2])) ?_
      exact QE.done (.inl rfl) rfl (ResOk.t rfl (ResOk.t rfl (ResOk.t rfl ResOk.nil))) (OImp.sub (List.nil_sublist _)) ⟨rfl, rfl⟩
    · refine CW.skip ?_
      refine QE.next ?_
      refine CW.seq ?_
      refine CW.join [(0, (kSl (kSl kZ)).is b), (2, (kInt .i64).is (b.length : Int)), (3, (kInt .i64).is ((b.getD 0 []).length : Int)), (4, (kInt .i64).is 0), (5, (kInt .i64).is (i : Int)), (6, (kInt .i64).is (i : Int)), (7, (kSl (kSl kZ)).is b), (8, (kInt .i64).is (b.length : Int)), (9, kBool.is (decide ((i : Int) < (b.length : Int)))), (22, (kSl (kSl kZ)).is b), (23, (kInt .i64).is (b.length : Int)), (24, kBool.is (decide ((b.length : Int) = 0))), (25, (kSl (kSl kZ)).is b), (26, (kInt .i64).is (b.length : Int)), (27, (kSl (kSl kZ)).is b), (28, VP.pim (kSl kZ) (b.getD 0 [])), (29, (kSl kZ).is (b.getD 0 [])), (30, (kInt .i64).is ((b.getD 0 []).length : Int))] [] ?_ ?_
      · refine CW.any (by kernel_rfl) ?_
        refine DA.first 0 rfl (by kernel_rfl) (by kernel_rfl) (by kernel_rfl) (fun _ _ _ _ _ h => h) .n (OV.mv rfl) ?_
        refine DA.first 2 rfl (by kernel_rfl) (by kernel_rfl) (by kernel_rfl) (fun _ _ _ _ _ h => h) .n (OV.mv rfl) ?_
        refine DA.go 1 [3] (by kernel_rfl) ⟨?_, ⟨?_, trivial⟩⟩
        · refine DO.w rfl ?_
          refine WP.s .n (O.lenS rfl Try.underlying67) ?_
          refine WP.nil ?_
          refine DO.nx ?_
          refine DA.go 3 [6] (by kernel_rfl) ⟨?_, ⟨?_, trivial⟩⟩
          · refine DO.w rfl ?_
            refine WP.s .n (O.ix 0 rfl rfl Try.underlying67 ty27 rfl (v := (b.getD 0 [])) (gd [] (by omega))) ?_
            refine WP.nil ?_
            refine DO.nx ?_
            refine DA.go 4 [6] (by kernel_rfl) ⟨?_, ⟨?_, trivial⟩⟩
            · refine DO.w rfl ?_
              refine WP.s .n (O.ldP rfl ty27) ?_
              refine WP.nil ?_
              refine DO.nx ?_
              refine DA.go 5 [6] (by kernel_rfl) ⟨?_, ⟨?_, trivial⟩⟩
              · refine DO.w rfl ?_
                refine WP.s .n (O.lenS rfl Try.underlying27) ?_
                refine WP.nil ?_
                refine DO.nx ?_
                refine DA.go 6 [] (by kernel_rfl) ⟨?_, trivial⟩
                refine DO.w rfl ?_
                refine WP.s .n (O.asg rfl) ?_
                refine WP.nil ?_
                refine DO.nx ?_
                refine DA.go 7 [] (by kernel_rfl) ⟨?_, trivial⟩
                refine DO.w rfl ?_
                refine WP.s .n (O.asg rfl) ?_
                refine WP.nil ?_
                refine DO.nx ?_
                refine DA.go 8 [] (by kernel_rfl) ⟨?_, trivial⟩
                refine DO.w rfl ?_
                refine WP.s .n (O.asg rfl) ?_
                refine WP.nil ?_
                refine DO.nx ?_
                refine DA.nil (by kernel_rfl) ?_
                exact QE.join (Imp.cons rfl (Imp.cons rfl (Imp.cons rfl (Imp.cons rfl (Imp.cons rfl (Imp.cons rfl (Imp.cons rfl (Imp.cons rfl (Imp.cons rfl (Imp.cons rfl (Imp.cons rfl (Imp.cons rfl (Imp.cons rfl (Imp.cons rfl (Imp.cons rfl (Imp.cons rfl (Imp.cons rfl (Imp.cons rfl Imp.nil)))))))))))))))))) (OImp.refl _)
              · refine DO.w rfl ?_
                refine WP.s .n (O.asg rfl) ?_
                refine WP.nil ?_
                refine DO.nx ?_
                refine DA.go 5 [] (by kernel_rfl) ⟨?_, trivial⟩
                refine DO.w rfl ?_
                refine WP.s .n (O.lenS rfl Try.underlying27) ?_
                refine WP.nil ?_
                refine DO.nx ?_
                refine DA.go 7 [] (by kernel_rfl) ⟨?_, trivial⟩
                refine DO.w rfl ?_
                refine WP.s .n (O.asg rfl) ?_
                refine WP.nil ?_
                refine DO.nx ?_
                refine DA.go 8 [] (by kernel_rfl) ⟨?_, trivial⟩
                refine DO.w rfl ?_
                refine WP.s .n (O.asg rfl) ?_
                refine WP.nil ?_
                refine DO.nx ?_
                refine DA.nil (by kernel_rfl) ?_
                exact QE.join (Imp.cons rfl (Imp.cons rfl (Imp.cons rfl (Imp.cons rfl (Imp.cons rfl (Imp.cons rfl (Imp.cons rfl (Imp.cons rfl (Imp.cons rfl (Imp.cons rfl (Imp.cons rfl (Imp.cons rfl (Imp.cons rfl (Imp.cons rfl (Imp.cons rfl (Imp.cons rfl (Imp.cons rfl (Imp.cons rfl Imp.nil)))))))))))))))))) (OImp.refl _)
            · refine DO.w rfl ?_
              refine WP.s .n (O.asg rfl) ?_
              refine WP.nil ?_
              refine DO.nx ?_
              refine DA.go 4 [] (by kernel_rfl) ⟨?_, trivial⟩
              refine DO.w rfl ?_
              refine WP.s .n (O.ldP rfl ty27) ?_
              refine WP.nil ?_
              refine DO.nx ?_
              refine DA.go 5 [] (by kernel_rfl) ⟨?_, trivial⟩
              refine DO.w rfl ?_
              refine WP.s .n (O.lenS rfl Try.underlying27) ?_
              refine WP.nil ?_
              refine DO.nx ?_
              refine DA.go 7 [] (by kernel_rfl) ⟨?_, trivial⟩
              refine DO.w rfl ?_
              refine WP.s .n (O.asg rfl) ?_
              refine WP.nil ?_
              refine DO.nx ?_
              refine DA.go 8 [] (by kernel_rfl) ⟨?_, trivial⟩
              refine DO.w rfl ?_
              refine WP.s .n (O.asg rfl) ?_
              refine WP.nil ?_
              refine DO.nx ?_
              refine DA.nil (by kernel_rfl) ?_
              exact QE.join (Imp.cons rfl (Imp.cons rfl (Imp.cons rfl (Imp.cons rfl (Imp.cons rfl (Imp.cons rfl (Imp.cons rfl (Imp.cons rfl (Imp.cons rfl (Imp.cons rfl (Imp.cons rfl (Imp.cons rfl (Imp.cons rfl (Imp.cons rfl (Imp.cons rfl (Imp.cons rfl (Imp.cons rfl (Imp.cons rfl Imp.nil)))))))))))))))))) (OImp.refl _)
          · refine DO.w rfl ?_
            refine WP.s .n (O.asg rfl) ?_
            refine WP.nil ?_
            refine DO.nx ?_
            refine DA.go 3 [] (by kernel_rfl) ⟨?_, trivial⟩
            refine DO.w rfl ?_
            refine WP.s .n (O.ix 0 rfl rfl Try.underlying67 ty27 rfl (v := (b.getD 0 [])) (gd [] (by omega))) ?_
            refine WP.nil ?_
            refine DO.nx ?_
            refine DA.go 4 [] (by kernel_rfl) ⟨?_, trivial⟩
            refine DO.w rfl ?_
            refine WP.s .n (O.ldP rfl ty27) ?_
            refine WP.nil ?_
            refine DO.nx ?_
            refine DA.go 5 [] (by kernel_rfl) ⟨?_, trivial⟩
            refine DO.w rfl ?_
            refine WP.s .n (O.lenS rfl Try.underlying27) ?_
            refine WP.nil ?_
            refine DO.nx ?_
            refine DA.go 7 [] (by kernel_rfl) ⟨?_, trivial⟩
            refine DO.w rfl ?_
            refine WP.s .n (O.asg rfl) ?_
            refine WP.nil ?_
            refine DO.nx ?_
            refine DA.go 8 [] (by kernel_rfl) ⟨?_, trivial⟩
            refine DO.w rfl ?_
            refine WP.s .n (O.asg rfl) ?_
            refine WP.nil ?_
            refine DO.nx ?_
            refine DA.nil (by kernel_rfl) ?_
            exact QE.join (Imp.cons rfl (Imp.cons rfl (Imp.cons rfl (Imp.cons rfl (Imp.cons rfl (Imp.cons rfl (Imp.cons rfl (Imp.cons rfl (Imp.cons rfl (Imp.cons rfl (Imp.cons rfl (Imp.cons rfl (Imp.cons rfl (Imp.cons rfl (Imp.cons rfl (Imp.cons rfl (Imp.cons rfl (Imp.cons rfl Imp.nil)))))))))))))))))) (OImp.refl _)
        · refine DO.w rfl ?_
          refine WP.s .n (O.ix 0 rfl rfl Try.underlying67 ty27 rfl (v := (b.getD 0 [])) (gd [] (by omega))) ?_
          refine WP.nil ?_
          refine DO.nx ?_
          refine DA.go 1 [4] (by kernel_rfl) ⟨?_, ⟨?_, trivial⟩⟩
          · refine DO.w rfl ?_
            refine WP.s .n (O.lenS rfl Try.underlying67) ?_
            refine WP.nil ?_
            refine DO.nx ?_
            refine DA.go 4 [6] (by kernel_rfl) ⟨?_, ⟨?_, trivial⟩⟩
            · refine DO.w rfl ?_
              refine WP.s .n (O.ldP rfl ty27) ?_
              refine WP.nil ?_
              refine DO.nx ?_
              refine DA.go 5 [6] (by kernel_rfl) ⟨?_, ⟨?_, trivial⟩⟩
              · refine DO.w rfl ?_
                refine WP.s .n (O.lenS rfl Try.underlying27) ?_
                refine WP.nil ?_
                refine DO.nx ?_
                refine DA.go 6 [] (by kernel_rfl) ⟨?_, trivial⟩
                refine DO.w rfl ?_
                refine WP.s .n (O.asg rfl) ?_
                refine WP.nil ?_
                refine DO.nx ?_
                refine DA.go 7 [] (by kernel_rfl) ⟨?_, trivial⟩
                refine DO.w rfl ?_
                refine WP.s .n (O.asg rfl) ?_
                refine WP.nil ?_
                refine DO.nx ?_
                refine DA.go 8 [] (by kernel_rfl) ⟨?_, trivial⟩
                refine DO.w rfl ?_
                refine WP.s .n (O.asg rfl) ?_
                refine WP.nil ?_
                refine DO.nx ?_
                refine DA.nil (by kernel_rfl) ?_
                exact QE.join (Imp.cons rfl (Imp.cons rfl (Imp.cons rfl (Imp.cons rfl (Imp.cons rfl (Imp.cons rfl (Imp.cons rfl (Imp.cons rfl (Imp.cons rfl (Imp.cons rfl (Imp.cons rfl (Imp.cons rfl (Imp.cons rfl (Imp.cons rfl (Imp.cons rfl (Imp.cons rfl (Imp.cons rfl (Imp.cons rfl Imp.nil)))))))))))))))))) (OImp.refl _)
              · refine DO.w rfl ?_
                refine WP.s .n (O.asg rfl) ?_
                refine WP.nil ?_
                refine DO.nx ?_
                refine DA.go 5 [] (by kernel_rfl) ⟨?_, trivial⟩
                refine DO.w rfl ?_
                refine WP.s .n (O.lenS rfl Try.underlying27) ?_
                refine WP.nil ?_
                refine DO.nx ?_
                refine DA.go 7 [] (by kernel_rfl) ⟨?_, trivial⟩
                refine DO.w rfl ?_
                refine WP.s .n (O.asg rfl) ?_
                refine WP.nil ?_
                refine DO.nx ?_
                refine DA.go 8 [] (by kernel_rfl) ⟨?_, trivial⟩
                refine DO.w rfl ?_
                refine WP.s .n (O.asg rfl) ?_
                refine WP.nil ?_
                refine DO.nx ?_
                refine DA.nil (by kernel_rfl) ?_
                exact QE.join (Imp.cons rfl (Imp.cons rfl (Imp.cons rfl (Imp.cons rfl (Imp.cons rfl (Imp.cons rfl (Imp.cons rfl (Imp.cons rfl (Imp.cons rfl (Imp.cons rfl (Imp.cons rfl (Imp.cons rfl (Imp.cons rfl (Imp.cons rfl (Imp.cons rfl (Imp.cons rfl (Imp.cons rfl (Imp.cons rfl Imp.nil)))))))))))))))))) (OImp.refl _)
            · refine DO.w rfl ?_
              refine WP.s .n (O.asg rfl) ?_
              refine WP.nil ?_
              refine DO.nx ?_
              refine DA.go 4 [] (by kernel_rfl) ⟨?_, trivial⟩
              refine DO.w rfl ?_
              refine WP.s .n (O.ldP rfl ty27) ?_
              refine WP.nil ?_
              refine DO.nx ?_
              refine DA.go 5 [] (by kernel_rfl) ⟨?_, trivial⟩
              refine DO.w rfl ?_
              refine WP.s .n (O.lenS rfl Try.underlying27) ?_
              refine WP.nil ?_
              refine DO.nx ?_
              refine DA.go 7 [] (by kernel_rfl) ⟨?_, trivial⟩
              refine DO.w rfl ?_
              refine WP.s .n (O.asg rfl) ?_
              refine WP.nil ?_
              refine DO.nx ?_
              refine DA.go 8 [] (by kernel_rfl) ⟨?_, trivial⟩
              refine DO.w rfl ?_
              refine WP.s .n (O.asg rfl) ?_
              refine WP.nil ?_
              refine DO.nx ?_
              refine DA.nil (by kernel_rfl) ?_
              exact QE.join (Imp.cons rfl (Imp.cons rfl (Imp.cons rfl (Imp.cons rfl (Imp.cons rfl (Imp.cons rfl (Imp.cons rfl (Imp.cons rfl (Imp.cons rfl (Imp.cons rfl (Imp.cons rfl (Imp.cons rfl (Imp.cons rfl (Imp.cons rfl (Imp.cons rfl (Imp.cons rfl (Imp.cons rfl (Imp.cons rfl Imp.nil)))))))))))))))))) (OImp.refl _)
          · refine DO.w rfl ?_
            refine WP.s .n (O.ldP rfl ty27) ?_
            refine WP.nil ?_
            refine DO.nx ?_
            refine DA.go 1 [5] (by kernel_rfl) ⟨?_, ⟨?_, trivial⟩⟩
            · refine DO.w rfl ?_
              refine WP.s .n (O.lenS rfl Try.underlying67) ?_
              refine WP.nil ?_
              refine DO.nx ?_
              refine DA.go 5 [6] (by kernel_rfl) ⟨?_, ⟨?_, trivial⟩⟩
              · refine DO.w rfl ?_
                refine WP.s .n (O.lenS rfl Try.underlying27) ?_
                refine WP.nil ?_
                refine DO.nx ?_
                refine DA.go 6 [] (by kernel_rfl) ⟨?_, trivial⟩
                refine DO.w rfl ?_
                refine WP.s .n (O.asg rfl) ?_
                refine WP.nil ?_
                refine DO.nx ?_
                refine DA.go 7 [] (by kernel_rfl) ⟨?_, trivial⟩
                refine DO.w rfl ?_
                refine WP.s .n (O.asg rfl) ?_
                refine WP.nil ?_
                refine DO.nx ?_
                refine DA.go 8 [] (by kernel_rfl) ⟨?_, trivial⟩
                refine DO.w rfl ?_
                refine WP.s .n (O.asg rfl) ?_
                refine WP.nil ?_
                refine DO.nx ?_
                refine DA.nil (by kernel_rfl) ?_
                exact QE.join (Imp.cons rfl (Imp.cons rfl (Imp.cons rfl (Imp.cons rfl (Imp.cons rfl (Imp.cons rfl (Imp.cons rfl (Imp.cons rfl (Imp.cons rfl (Imp.cons rfl (Imp.cons rfl (Imp.cons rfl (Imp.cons rfl (Imp.cons rfl (Imp.cons rfl (Imp.cons rfl (Imp.cons rfl (Imp.cons rfl Imp.nil)))))))))))))))))) (OImp.refl _)
              · refine DO.w rfl ?_
                refine WP.s .n (O.asg rfl) ?_
                refine WP.nil ?_
                refine DO.nx ?_
                refine DA.go 5 [] (by kernel_rfl) ⟨?_, trivial⟩
                refine DO.w rfl ?_
                refine WP.s .n (O.lenS rfl Try.underlying27) ?_
                refine WP.nil ?_
                refine DO.nx ?_
                refine DA.go 7 [] (by kernel_rfl) ⟨?_, trivial⟩
                refine DO.w rfl ?_
                refine WP.s .n (O.asg rfl) ?_
                refine WP.nil ?_
                refine DO.nx ?_
                refine DA.go 8 [] (by kernel_rfl) ⟨?_, trivial⟩
                refine DO.w rfl ?_
                refine WP.s .n (O.asg rfl) ?_
                refine WP.nil ?_
                refine DO.nx ?_
                refine DA.nil (by kernel_rfl) ?_
                exact QE.join (Imp.cons rfl (Imp.cons rfl (Imp.cons rfl (Imp.cons rfl (Imp.cons rfl (Imp.cons rfl (Imp.cons rfl (Imp.cons rfl (Imp.cons rfl (Imp.cons rfl (Imp.cons rfl (Imp.cons rfl (Imp.cons rfl (Imp.cons rfl (Imp.cons rfl (Imp.cons rfl (Imp.cons rfl (Imp.cons rfl Imp.nil)))))))))))))))))) (OImp.refl _)
            · refine DO.w rfl ?_
              refine WP.s .n (O.lenS rfl Try.underlying27) ?_
              refine WP.nil ?_
              refine DO.nx ?_
              refine DA.go 1 [] (by kernel_rfl) ⟨?_, trivial⟩
              refine DO.w rfl ?_
              refine WP.s .n (O.lenS rfl Try.underlying67) ?_
              refine WP.nil ?_
              refine DO.nx ?_
              refine DA.go 6 [] (by kernel_rfl) ⟨?_, trivial⟩
              refine DO.w rfl ?_
              refine WP.s .n (O.asg rfl) ?_
              refine WP.nil ?_
              refine DO.nx ?_
              refine DA.go 7 [] (by kernel_rfl) ⟨?_, trivial⟩
              refine DO.w rfl ?_
              refine WP.s .n (O.asg rfl) ?_
              refine WP.nil ?_
              refine DO.nx ?_
              refine DA.go 8 [] (by kernel_rfl) ⟨?_, trivial⟩
              refine DO.w rfl ?_
              refine WP.s .n (O.asg rfl) ?_
              refine WP.nil ?_
              refine DO.nx ?_
              refine DA.nil (by kernel_rfl) ?_
              exact QE.join (Imp.cons rfl (Imp.cons rfl (Imp.cons rfl (Imp.cons rfl (Imp.cons rfl (Imp.cons rfl (Imp.cons rfl (Imp.cons rfl (Imp.cons rfl (Imp.cons rfl (Imp.cons rfl (Imp.cons rfl (Imp.cons rfl (Imp.cons rfl (Imp.cons rfl (Imp.cons rfl (Imp.cons rfl (Imp.cons rfl Imp.nil)))))))))))))))))) (OImp.refl _)
      refine QE.next ?_
      refine CW.ret ?_
      have hx := sh_yes (b := b) (fun j hj => hl j (by omega))
      refine ST.told 2 rfl (is_eq (y := (shN b)) (by rw [hx.1])) ?_
      refine ST.told 3 rfl (is_eq (y := (shM b)) (by rw [hx.2.1])) ?_
      refine ST.told 4 rfl (is_eq (y := (shE b)) (by rw [hx.2.2])) ?_
      exact QE.done (.inl rfl) rfl (ResOk.t rfl (ResOk.t rfl (ResOk.t rfl ResOk.nil))) (OImp.sub (List.nil_sublist _)) ⟨rfl, rfl⟩

set_option maxRecDepth 20000 in
set_option maxHeartbeats 1000000 in
theorem c_ref04_Dot (n : Nat) (u v : List Int) (hu : SzL n u) (hv : SzL n v) (hn : n + n + u.length ≤ 549755813000) : Fn Try.prog 176 [(kSl kZ).is u, (kSl kZ).is v] (VP.tup [kC.is (if u.length = v.length then dotV u v else 0), (kInt .i64).is (if u.length = v.length then 0 else 8)]) := by
  refine Con.enter Try.func176 rfl rfl fun m w => ?_
  refine ST.fact (i := 0) rfl sl_len fun hB => ?_
  refine ST.fact (i := 1) rfl sl_len fun hC => ?_
  refine CW.seq ?_
  refine CW.region ?_
  refine WP.al .n z31_C fun b1 => ?_
  refine WP.s .n (O.asg rfl) ?_
  refine WP.nil ?_
  refine QE.next ?_
  refine CW.seq ?_
  refine CW.seq ?_
  refine CW.region ?_
  refine WP.s .n (O.mv rfl) ?_
  refine WP.s .n (O.lenS rfl Try.underlying27) ?_
  refine WP.s .n (O.mv rfl) ?_
  refine WP.s .n (O.lenS rfl Try.underlying27) ?_
  refine WP.s .n (O.ne rfl rfl) ?_
  refine WP.nil ?_
  refine QE.next ?_
  refine CW.condD rfl (fun h_t12 => ?_) (fun h_t12 => ?_)
  · refine CW.seq ?_
    refine CW.region ?_
    refine WP.s .n (O.bld lit31_C rfl evp.n (.nil _)) ?_
    refine WP.t .n (O.stW (l := kC) (u := 0) 0 rfl rfl rfl ty31 rfl (VP.le_refl _)) ?_
    refine WP.s .n (O.asg rfl) ?_
    refine WP.nil ?_
    refine QE.next ?_
    refine CW.ret ?_
    refine QE.thenR ?_
    have hne : u.length ≠ v.length := by omega
    refine ST.obtold 0 rfl (OB.box_eq (y := (if u.length = v.length then dotV u v else 0)) (by rw [if_neg hne])) ?_
    refine ST.told 5 rfl (is_eq (y := (if u.length = v.length then 0 else 8)) (by rw [if_neg hne])) ?_
    exact QE.done (.inl rfl) rfl (ResOk.c rfl (mem_at 0 rfl) ty31 (ResOk.t rfl ResOk.nil)) (OImp.sub (List.nil_sublist _)) ⟨rfl, rfl⟩
  · refine CW.skip ?_
    refine QE.next ?_
    refine CW.seq ?_
    have hne : u.length = v.length := by omega
    refine CW.region ?_
    refine WP.s .n (O.fn fn78 (evs.l rfl (i64_int (by omega)) evs.nil) (c_ref02_Of 0)) ?_
    refine WP.al .n z31_C fun b2 => ?_
    refine WP.t .n (O.stW (l := kC) (u := 0) 0 rfl rfl rfl ty31 rfl (VP.le_refl _)) ?_
    refine WP.nil ?_
    refine QE.next ?_
    refine CW.seq ?_
    refine CW.seq ?_
    refine CW.region ?_
    refine WP.s .n (O.asg rfl) ?_
    refine WP.nil ?_
    refine QE.next ?_
    refine CW.block ?_
    refine CW.loop (fun (i : Nat) => i ≤ u.length) (fun (i : Nat) => [(0, (kSl kZ).is u), (1, (kSl kZ).is v), (4, VP.ex (.pointer (some ⟨b1, 0, none⟩))), (6, VP.ex (.pointer (some ⟨b2, 0, none⟩))), (7, (kInt .i64).is (i : Int))]) (fun (i : Nat) => [OB.box b2 31 kC (dotN u v i), OB.box b1 31 kC 0]) (fun (i : Nat) => u.length - i) 0 (by omega) (Imp.cons rfl (Imp.cons rfl (Imp.cons rfl (Imp.cons rfl (Imp.consLe rfl (is_eq (y := (0 : Int)) (by first | rfl | omega | assumption)) Imp.nil))))) (OImp.os (OS.keepLe (OB.box_eq (by first | rfl | omega | assumption)) (OS.keep OS.nil))) ?_
    intro i hi
    refine CW.seq ?_
    refine CW.seq ?_
    refine CW.region ?_
    refine WP.s .n (O.mv rfl) ?_
    refine WP.s .n (O.mv rfl) ?_
    refine WP.s .n (O.lenS rfl Try.underlying27) ?_
    refine WP.s .n (O.lt rfl rfl) ?_
    refine WP.nil ?_
    refine QE.next ?_
    refine CW.condD rfl (fun h_t18 => ?_) (fun h_t18 => ?_)
    · refine CW.skip ?_
      refine QE.next ?_
      refine CW.seq ?_
      refine CW.block ?_
      refine CW.draw (Γ := [.fr (kC.is (dotN u v i)), .fr ((kSl kZ).is u), .fr ((kInt .i64).is (i : Int)), .fr (VP.pim kZ (u.getD i 0)), .fr (kZ.is (u.getD i 0)), .fr ((kSl kZ).is v), .fr ((kInt .i64).is (i : Int)), .fr (VP.pim kZ (v.getD i 0)), .fr (kZ.is (v.getD i 0)), .fr (kC.is ((u.getD i 0) * (v.getD i 0))), .fr (kC.is ((dotN u v i) + ((u.getD i 0) * (v.getD i 0))))]) (lates := [false, false, false, false, false, false, false, false, false, false, false]) (by kernel_rfl) (Chk.of rfl (by kernel_rfl) rfl) (fun _ _ _ _ _ h => h) (fun q_ x_ h_ => ?_) (fun σ1 => ?_)
      · match q_, h_ with
        | 0, h_ => cases h_; exact Ob.f rfl .n fun N => (O.ld rfl (mem_app N (mem_at 0 rfl)) (Lens.id _) ty31 rfl)
        | 1, h_ => cases h_; exact Ob.f rfl .n fun N => (O.mv rfl)
        | 2, h_ => cases h_; exact Ob.f rfl .n fun N => (O.mv rfl)
        | 3, h_ => cases h_; exact Ob.f rfl .n fun N => (O.ix i rfl rfl Try.underlying27 ty31 rfl (v := (u.getD i 0)) (gd 0 (by omega)))
        | 4, h_ => cases h_; exact Ob.f rfl .n fun N => (O.ldP rfl ty31)
        | 5, h_ => cases h_; exact Ob.f rfl .n fun N => (O.mv rfl)
        | 6, h_ => cases h_; exact Ob.f rfl .n fun N => (O.mv rfl)
        | 7, h_ => cases h_; exact Ob.f rfl .n fun N => (O.ix i rfl rfl Try.underlying27 ty31 rfl (v := (v.getD i 0)) (gd 0 (by omega)))
        | 8, h_ => cases h_; exact Ob.f rfl .n fun N => (O.ldP rfl ty31)
        | 9, h_ => cases h_; exact Ob.f rfl .n fun N => (O.fn fn91 (evs.c rfl (evs.c rfl evs.nil)) (c_ref02_Mul (u.getD i 0) (v.getD i 0)))
        | 10, h_ => cases h_; exact Ob.f rfl .n fun N => (O.fn fn79 (evs.l rfl (kC_Z (by first | exact (hu i).sm (by omega) | exact (hv i).sm (by omega) | exact (dotN_Sz hu hv i).sm (by omega) | exact ((hu i).mul (hv i)).sm (by omega))) (evs.l rfl (kC_Z (by first | exact (hu i).sm (by omega) | exact (hv i).sm (by omega) | exact (dotN_Sz hu hv i).sm (by omega) | exact ((hu i).mul (hv i)).sm (by omega))) evs.nil)) (c_ref02_Add (dotN u v i) ((u.getD i 0) * (v.getD i 0))))
        | n_ + 11, h_ => simp at h_
      refine WP.t .n (O.stW (l := kC) (u := (dotN u v i) + ((u.getD i 0) * (v.getD i 0))) 0 rfl rfl rfl ty31 rfl (VP.le_refl _)) ?_
      refine WP.nil ?_
      refine QE.blkN ?_
      refine QE.next ?_
      refine CW.region ?_
      refine WP.s .n (O.mv rfl) ?_
      refine WP.s .n (O.add rfl rfl (c := ((i : Int) + 1)) (w64 (by omega))) ?_
      refine WP.s .n (O.asg rfl) ?_
      refine WP.nil ?_
      refine ST.obtold 0 rfl (OB.box_eq (y := (dotN u v (i + 1))) rfl) ?_
      exact QE.round (i + 1) (by omega) (by omega) (Imp.cons rfl (Imp.cons rfl (Imp.cons rfl (Imp.cons rfl (Imp.consLe rfl (is_eq (y := (((i + 1) : Nat) : Int)) (by first | rfl | omega | assumption)) Imp.nil))))) (OImp.refl _)
    · refine CW.exit ?_
      refine QE.thenE ?_
      refine QE.thenE ?_
      refine QE.blkH ?_
      refine QE.next ?_
      refine CW.seq ?_
      refine CW.region ?_
      refine WP.s .n (O.ld rfl (mem_at 0 rfl) (Lens.id _) ty31 rfl) ?_
      refine WP.t .n (O.stW (l := kC) (u := (dotN u v i)) 1 rfl rfl rfl ty31 rfl (VP.le_refl _)) ?_
      refine WP.s .n (O.asg rfl) ?_
      refine WP.nil ?_
      refine QE.next ?_
      refine CW.ret ?_
      refine ST.obtold 1 rfl (OB.box_eq (y := (if u.length = v.length then dotV u v else 0)) (by rw [if_pos hne, show i = u.length by omega]; rfl)) ?_
      refine ST.told 5 rfl (is_eq (y := (if u.length = v.length then 0 else 8)) (by rw [if_pos hne])) ?_
      exact QE.done (.inl rfl) rfl (ResOk.c rfl (mem_at 1 rfl) ty31 (ResOk.t rfl ResOk.nil)) (OImp.sub (List.nil_sublist _)) ⟨rfl, rfl⟩

set_option maxRecDepth 20000 in
set_option maxHeartbeats 1000000 in
theorem c_mat_Bits (b : List (List Int)) : Fn Try.prog 174 [(kSl (kSl kZ)).is b] ((kInt .i64).is (mbits b)) := by
  refine Con.enter Try.func174 rfl rfl fun m w => ?_
  refine ST.fact (i := 0) rfl sl_len fun hB => ?_
  refine CW.seq ?_
  refine CW.region ?_
  refine WP.s .n (O.asg rfl) ?_
  refine WP.nil ?_
  refine QE.next ?_
  refine CW.seq ?_
  refine CW.region ?_
  refine WP.s .n (O.asg rfl) ?_
  refine WP.nil ?_
  refine QE.next ?_
  refine CW.seq ?_
  refine CW.seq ?_
  refine CW.region ?_
  refine WP.s .n (O.mv rfl) ?_
  refine WP.s .n (O.lenS rfl Try.underlying67) ?_
  refine WP.s .n (O.mv rfl) ?_
  refine WP.nil ?_
  refine QE.next ?_
  refine CW.block ?_
  refine CW.loop (fun (i : Nat) => i ≤ b.length) (fun (i : Nat) => [(0, (kSl (kSl kZ)).is b), (3, (kInt .i64).is ((b.take i).foldl vbN 0)), (8, (kSl (kSl kZ)).is b), (9, (kInt .i64).is (b.length : Int)), (10, (kInt .i64).is (i : Int))]) (fun (i : Nat) => []) (fun (i : Nat) => b.length - i) 0 (by omega) (Imp.cons rfl (Imp.consLe rfl (is_eq (y := ((b.take 0).foldl vbN 0)) (by first | rfl | omega)) (Imp.cons rfl (Imp.cons rfl (Imp.consLe rfl (is_eq (y := (0 : Int)) (by first | rfl | omega)) Imp.nil))))) (OImp.refl _) ?_
  intro i hi
  refine CW.seq ?_
  refine CW.region ?_
  refine WP.s .n (O.lt rfl rfl) ?_
  refine WP.nil ?_
  refine QE.next ?_
  refine CW.seq ?_
  refine CW.condD rfl (fun h_t11 => ?_) (fun h_t11 => ?_)
  · refine CW.skip ?_
    refine QE.next ?_
    refine CW.seq ?_
    refine CW.block ?_
    refine CW.seq ?_
    refine CW.region ?_
    refine WP.s .n (O.ix i rfl rfl Try.underlying67 ty27 rfl (v := (b.getD i [])) (gd [] (by omega))) ?_
    refine WP.s .n (O.ldP rfl ty27) ?_
    refine WP.s .n (O.asg rfl) ?_
    refine WP.nil ?_
    refine QE.next ?_
    refine CW.seq ?_
    refine CW.region ?_
    refine ST.fact (i := 5) rfl sl_len fun hlk => ?_
    refine WP.s .n (O.mv rfl) ?_
    refine WP.s .n (O.lenS rfl Try.underlying27) ?_
    refine WP.s .n (O.mv rfl) ?_
    refine WP.nil ?_
    refine QE.next ?_
    refine CW.block ?_
    refine CW.loop (fun (k : Nat) => k ≤ (b.getD i []).length) (fun (k : Nat) => [(0, (kSl (kSl kZ)).is b), (3, (kInt .i64).is (vbN ((b.take i).foldl vbN 0) ((b.getD i []).take k))), (8, (kSl (kSl kZ)).is b), (9, (kInt .i64).is (b.length : Int)), (10, (kInt .i64).is (i : Int)), (14, (kSl kZ).is (b.getD i [])), (15, (kInt .i64).is ((b.getD i []).length : Int)), (16, (kInt .i64).is (k : Int))]) (fun (k : Nat) => []) (fun (k : Nat) => (b.getD i []).length - k) 0 (by omega) (Imp.cons rfl (Imp.consLe rfl (is_eq (y := (vbN ((b.take i).foldl vbN 0) ((b.getD i []).take 0))) (by first | rfl | omega)) (Imp.cons rfl (Imp.cons rfl (Imp.cons rfl (Imp.cons rfl (Imp.cons rfl (Imp.consLe rfl (is_eq (y := (0 : Int)) (by first | rfl | omega)) Imp.nil)))))))) (OImp.refl _) ?_
    intro k hk
    refine CW.seq ?_
    refine CW.region ?_
    refine WP.s .n (O.lt rfl rfl) ?_
    refine WP.nil ?_
    refine QE.next ?_
    refine CW.seq ?_
    refine CW.condD rfl (fun h_t17 => ?_) (fun h_t17 => ?_)
    · refine CW.skip ?_
      refine QE.next ?_
      refine CW.seq ?_
      refine CW.block ?_
      refine CW.seq ?_
      refine CW.region ?_
      refine WP.s .n (O.ix k rfl rfl Try.underlying27 ty31 rfl (v := ((b.getD i []).getD k 0)) (gd 0 (by omega))) ?_
      refine WP.s .n (O.ldP rfl ty31) ?_
      refine WP.al .n z31_C fun b1 => ?_
      refine WP.t .n (O.stW (l := kZ) (u := ((b.getD i []).getD k 0)) 0 rfl rfl rfl ty31 rfl (VP.le_refl _)) ?_
      refine WP.nil ?_
      refine QE.next ?_
      refine CW.region ?_
      refine WP.s .n (O.mv rfl) ?_
      refine WP.s .n (O.ld rfl (mem_at 0 rfl) (Lens.id _) ty31 rfl) ?_
      refine WP.s .n (O.fn fn96 (evs.c rfl evs.nil) (c_zint_Bits ((b.getD i []).getD k 0))) ?_
      refine WP.s .n (O.mx rfl rfl) ?_
      refine WP.s .n (O.asg rfl) ?_
      refine WP.nil ?_
      refine QE.blkN ?_
      refine QE.next ?_
      refine CW.region ?_
      refine WP.s .n (O.add rfl rfl (c := ((k : Int) + 1)) (w64 (by omega))) ?_
      refine WP.s .n (O.mv rfl) ?_
      refine WP.nil ?_
      refine ST.told 3 rfl (is_eq (y := (vbN ((b.take i).foldl vbN 0) ((b.getD i []).take (k + 1)))) (vbN_s (by omega))) ?_
      exact QE.round (k + 1) (by omega) (by omega) (Imp.cons rfl (Imp.cons rfl (Imp.cons rfl (Imp.cons rfl (Imp.cons rfl (Imp.cons rfl (Imp.cons rfl (Imp.consLe rfl (is_eq (y := (((k + 1) : Nat) : Int)) (by first | rfl | omega)) Imp.nil)))))))) (OImp.sub (List.nil_sublist _))
    · refine CW.exit ?_
      refine QE.thenE ?_
      refine QE.thenE ?_
      refine QE.blkH ?_
      refine QE.blkN ?_
      refine QE.next ?_
      refine CW.region ?_
      refine WP.s .n (O.add rfl rfl (c := ((i : Int) + 1)) (w64 (by omega))) ?_
      refine WP.s .n (O.mv rfl) ?_
      refine WP.nil ?_
      refine ST.told 3 rfl (is_eq (y := ((b.take (i + 1)).foldl vbN 0)) (mb_done (by omega) (by omega))) ?_
      exact QE.round (i + 1) (by omega) (by omega) (Imp.cons rfl (Imp.cons rfl (Imp.cons rfl (Imp.cons rfl (Imp.consLe rfl (is_eq (y := (((i + 1) : Nat) : Int)) (by first | rfl | omega)) Imp.nil))))) (OImp.refl _)
  · refine CW.exit ?_
    refine QE.thenE ?_
    refine QE.thenE ?_
    refine QE.blkH ?_
    refine QE.next ?_
    refine CW.seq ?_
    refine CW.region ?_
    refine WP.s .n (O.mv rfl) ?_
    refine WP.s .n (O.asg rfl) ?_
    refine WP.nil ?_
    refine QE.next ?_
    refine CW.ret ?_
    refine ST.told 2 rfl (is_eq (y := (mbits b)) (by rw [List.take_of_length_le (by omega)]; rfl)) ?_
    exact QE.done (.inl rfl) rfl (ResOk.t rfl ResOk.nil) (OImp.sub (List.nil_sublist _)) ⟨rfl, rfl⟩

end Fw


/- Plain facts: the whole data of Gram-Schmidt and the fractions: one is the other's numerator; sizes. -/
set_option linter.unusedVariables false
set_option linter.unusedSimpArgs false
set_option exponentiation.threshold 400
namespace Fw
open Go

theorem gsE_frac {G : Nat → Nat → Int} (hs : SymG G) {k : Nat} (hp : PosU G k) {i j : Nat} (hi : k ≤ i) (hj : k ≤ j) : gsE (qG G) k i j = (uE G k i j : Rat) / (uD G k : Rat) := by
  have h := ugs hs k hp
  have h1 := h.e i j hi hj
  have h2 : uD G k ≠ 0 := by have := hp.uD (Nat.le_refl k); omega
  have h3 := rat_ne h2
  rw [h1, h.d]; rw [h.d] at h3; grind
theorem gsE_pos {G : Nat → Nat → Int} (hs : SymG G) {k : Nat} (hp : PosU G k) : 0 < gsE (qG G) k k k ↔ 0 < uE G k k k := by
  have h2 : 0 < uD G k := hp.uD (Nat.le_refl k)
  have h1 := gsE_frac hs hp (Nat.le_refl k) (Nat.le_refl k)
  have hd : (0 : Rat) < (uD G k : Rat) := by exact_mod_cast h2
  have hne := rat_ne (show uD G k ≠ 0 by omega)
  have e : (uE G k k k : Rat) = gsE (qG G) k k k * (uD G k : Rat) := by rw [h1]; grind
  constructor
  · intro h
    have : (0 : Rat) < (uE G k k k : Rat) := by rw [e]; exact Rat.mul_pos h hd
    exact_mod_cast this
  · intro h
    have h4 : (0 : Rat) < (uE G k k k : Rat) := by exact_mod_cast h
    rw [h1, Rat.div_def]; exact Rat.mul_pos h4 (Rat.inv_pos.2 hd)
/-- bits behind k steps -/
def szU (n : Nat) : Nat → Nat
  | 0 => n
  | k + 1 => 2 * szU n k + 1
theorem uE_Sz {G : Nat → Nat → Int} (hs : SymG G) {n : Nat} (hn : ∀ i j, Sz n (G i j)) {K : Nat} (hp : PosU G K) : ∀ k, k ≤ K → ∀ i j, k ≤ i → k ≤ j → Sz (szU n k) (uE G k i j)
  | 0, _, i, j, _, _ => hn i j
  | k + 1, hk, i, j, hi, hj => by
    have ih := uE_Sz hs hn hp k (by omega)
    have hx := (ugs hs K hp).x k (by omega) i j (by omega) (by omega) (by omega) (by omega)
    have hd : 0 < uD G k := hp.uD (by omega)
    have h1 := Sz.add1 (((ih k k (Nat.le_refl _) (Nat.le_refl _)).mul (ih i j (by omega) (by omega)))) ((((ih i k (by omega) (Nat.le_refl _)).mul (ih j k (by omega) (Nat.le_refl _)))).neg)
    have e : uE G k k k * uE G k i j + -(uE G k i k * uE G k j k) = uE G (k + 1) i j * uD G k := by
      rw [hx]; show _ = uE G k k k * uE G k i j - _; omega
    rw [e] at h1
    have h2 := h1.le (y := uE G (k + 1) i j) (by
      rw [Int.natAbs_mul]; exact Nat.le_mul_of_pos_right _ (by omega))
    exact h2.up (by simp only [szU]; omega)

end Fw


/- Plain facts: the sum of rows, each so many times. -/
set_option linter.unusedVariables false
set_option linter.unusedSimpArgs false
set_option exponentiation.threshold 400
namespace Fw
open Go

/-- column k of the first i rows' sum -/
def combN (x : List Int) (b : List (List Int)) (k : Nat) : Nat → Int
  | 0 => 0
  | i + 1 => combN x b k i + x.getD i 0 * (b.getD i []).getD k 0
theorem combN_Sz {n m x b} (hx : SzL n x) (hb : ∀ i, SzL m (b.getD i [])) (k) : ∀ i, Sz (n + m + i) (combN x b k i)
  | 0 => Sz.zero _
  | i + 1 => Sz.add1 (combN_Sz hx hb k i) (((hx i).mul (hb i k)).up (show n + m ≤ n + m + i by omega))
/-- row i is added as far as column k0 -/
def combP (x : List Int) (b : List (List Int)) (i k0 : Nat) : List Int := (List.range (b.getD 0 []).length).map (fun k => combN x b k (if k < k0 then i + 1 else i))
def combV (x : List Int) (b : List (List Int)) : List Int := (List.range (b.getD 0 []).length).map (fun k => combN x b k b.length)
theorem combP_len (x b i k0) : (combP x b i k0).length = (b.getD 0 []).length := by simp [combP]
theorem combP_get {x b i k0} (h : k0 < (b.getD 0 []).length) : (combP x b i k0).getD k0 0 = combN x b k0 i := by
  rw [gde _ 0 (by rw [combP_len]; exact h)]; simp [combP]
theorem combP_set {x b i k0} (h : k0 < (b.getD 0 []).length) : (combP x b i k0).set k0 (combN x b k0 i + x.getD i 0 * (b.getD i []).getD k0 0) = combP x b i (k0 + 1) := by
  apply List.ext_getElem
  · simp [combP]
  · intro k h1 h2
    simp only [List.getElem_set, combP, List.getElem_map, List.getElem_range]
    by_cases e : k0 = k
    · subst e; rw [if_pos rfl, if_pos (by omega)]; rfl
    · rw [if_neg e]
      by_cases e2 : k < k0
      · rw [if_pos e2, if_pos (by omega)]
      · rw [if_neg e2, if_neg (by omega)]
theorem combP_row {x b i k0} (h : (b.getD 0 []).length ≤ k0) : combP x b i k0 = combP x b (i + 1) 0 := by
  apply List.map_congr_left
  intro k hk
  have := List.mem_range.1 hk
  rw [if_pos (by omega), if_neg (by omega)]
theorem combP_zero (x b) : combP x b 0 0 = List.replicate (b.getD 0 []).length 0 := by
  apply List.ext_getElem
  · simp [combP]
  · intro k h1 h2; simp [combP, combN]
theorem combP_end (x) (b : List (List Int)) : combP x b b.length 0 = combV x b := by
  apply List.map_congr_left
  intro k hk; rw [if_neg (by omega)]

end Fw


/- Plain facts: combinations of rows, and Gram-Schmidt data as lists. -/
set_option linter.unusedVariables false
set_option linter.unusedSimpArgs false
set_option exponentiation.threshold 400
namespace Fw
open Go

theorem slsl_len {α : Type} {k : Kd α} {b : List (List α)} (m : Mem) (v : Value) (h : ((kSl (kSl k)).is b).p m v) : ∀ i, (b.getD i []).length ≤ 1099511627776 := by
  intro i
  obtain ⟨a, cap, rfl, h1, h2, h3⟩ := Kd.is_sl h
  by_cases hi : i < b.length
  · rcases h3 with rfl | ⟨g, o, c, cells, rfl, e1, e2, e3⟩
    · simp at hi
    · have := e3.get i hi
      obtain ⟨a', cap', _, h4, _⟩ := this
      rw [gde _ [] hi]; exact h4
  · have e : b.getD i [] = [] := by simp [List.getD, Nat.le_of_not_lt hi]
    rw [e]; simp

def RectL (b : List (List Int)) : Prop := ∀ i, i < b.length → (b.getD i []).length = (b.getD 0 []).length
def SzM (n : Nat) (b : List (List Int)) : Prop := ∀ i, SzL n (b.getD i [])
theorem combV_len (x b) : (combV x b).length = (b.getD 0 []).length := by simp [combV]
theorem combV_get {x b k} (h : k < (b.getD 0 []).length) : (combV x b).getD k 0 = combN x b k b.length := by
  rw [gde _ 0 (by rw [combV_len]; exact h)]; simp [combV]
theorem combV_app {x b k} (h : k < (b.getD 0 []).length) : (combV x b).take k ++ [combN x b k b.length] = (combV x b).take (k + 1) := by
  rw [← combV_get h, gde _ 0 (by rw [combV_len]; exact h), List.take_succ_eq_append_getElem (by rw [combV_len]; exact h)]
theorem combP_at {x b i k} (h : k < (b.getD 0 []).length) : (combP x b i k)[k]? = some (combN x b k i) := by
  rw [gd (l := combP x b i k) (i := k) 0 (by rw [combP_len]; exact h), combP_get h]
theorem combV_nil (x) {b : List (List Int)} (h : b.length = 0) : combV x b = [] := by
  have := List.eq_nil_of_length_eq_zero h; subst this; rfl
def combOk (x : List Int) (b : List (List Int)) : Prop := rect b = true ∧ x.length = b.length
instance (x b) : Decidable (combOk x b) := by unfold combOk; infer_instance
def combA (x : List Int) (b : List (List Int)) : List Int := if combOk x b then combV x b else []
def combE (x : List Int) (b : List (List Int)) : Int := if combOk x b then 0 else 8
theorem comb_yes {x b} (h : combOk x b) : combV x b = combA x b ∧ combE x b = 0 := ⟨(if_pos h).symm, if_pos h⟩
theorem comb_no {x b} (h : ¬ combOk x b) : combA x b = [] ∧ combE x b = 8 := ⟨if_neg h, if_neg h⟩
theorem rectL {b} (h : rect b = true) : RectL b := rect_iff.1 h
theorem rect_of_shE {b} (h : ¬ shE b ≠ 0) : rect b = true := by
  unfold shE at h
  by_cases e : rect b = true
  · exact e
  · rw [if_neg e] at h; exact absurd (by decide) h
theorem not_rect_of_shE {b} (h : shE b ≠ 0) : ¬ rect b = true := by
  intro e; unfold shE at h; rw [if_pos e] at h; exact h rfl

/-! Gram-Schmidt data as the program keeps them. -/
def gOk (G : Nat → Nat → Int) (n : Nat) : Bool := (List.range n).all (fun i => decide (0 < uE G i i i))
def gDs (G : Nat → Nat → Int) (n : Nat) : List Int := (List.range (n + 1)).map (uD G)
def gRow (G : Nat → Nat → Int) (i m : Nat) : List Int := (List.range m).map (fun j => uE G j i j)
def gLs (G : Nat → Nat → Int) (n : Nat) : List (List Int) := (List.range n).map (fun i => gRow G i i)
theorem gOk_iff {G n} : gOk G n = true ↔ PosU G n := by
  unfold gOk PosU; simp
theorem gRow_len (G i m) : (gRow G i m).length = m := by simp [gRow]
theorem gRow_get {G i m j} (h : j < m) : (gRow G i m).getD j 0 = uE G j i j := by
  rw [gde _ 0 (by rw [gRow_len]; exact h)]; simp [gRow]
theorem gRow_app (G i m) : gRow G i m ++ [uE G m i m] = gRow G i (m + 1) := by
  simp [gRow, List.range_succ]
theorem gRow_take (G i m) : (gRow G i (m + 1)).take m = gRow G i m := by
  rw [← gRow_app, List.take_left' (gRow_len G i m)]
theorem gDs_len (G n) : (gDs G n).length = n + 1 := by simp [gDs]
theorem gDs_get {G n k} (h : k ≤ n) : (gDs G n).getD k 0 = uD G k := by
  rw [gde _ 0 (by rw [gDs_len]; omega)]; simp [gDs]
theorem gDs_app (G n) : gDs G n ++ [uE G n n n] = gDs G (n + 1) := by
  simp [gDs, List.range_succ]; rfl
theorem gLs_len (G n) : (gLs G n).length = n := by simp [gLs]
theorem gLs_get {G n k} (h : k < n) : (gLs G n).getD k [] = gRow G k k := by
  rw [gde _ [] (by rw [gLs_len]; omega)]; simp [gLs]
theorem gLs_app (G n) : gLs G n ++ [gRow G n n] = gLs G (n + 1) := by
  simp [gLs, List.range_succ]
theorem szU_eq (n) : ∀ k, szU n k + 1 = 2 ^ k * (n + 1)
  | 0 => by simp [szU]
  | k + 1 => by rw [szU, Nat.pow_succ, Nat.mul_comm (2 ^ k) 2, Nat.mul_assoc, ← szU_eq n k]; omega
theorem szU_le (n) {k : Nat} (h : k ≤ 12) : szU n k ≤ 4096 * (n + 1) := by
  have h1 := szU_eq n k
  have h2 : 2 ^ k ≤ 2 ^ 12 := Nat.pow_le_pow_right (by decide) h
  have h3 := Nat.mul_le_mul_right (n + 1) h2
  omega
theorem gDs_at {G n k} (h : k ≤ n) : (gDs G n)[k]? = some (uD G k) := by
  have := gDs_get (G := G) h; rw [gd (l := gDs G n) (i := k) 0 (by rw [gDs_len]; omega), this]
theorem gRow_at {G i m j} (h : j < m) : (gRow G i m)[j]? = some (uE G j i j) := by
  have := gRow_get (G := G) (i := i) h; rw [gd (l := gRow G i m) (i := j) 0 (by rw [gRow_len]; omega), this]
theorem gLs_at {G n i k} (hi : i < n) (h : k < i) : ((gLs G n).getD i [])[k]? = some (uE G k i k) := by
  rw [gLs_get hi]; exact gRow_at h
/-- what built answers -/
def gsoV (G : Nat → Nat → Int) (n : Nat) : List Int × List (List Int) := if gOk G n = true then (gDs G n, gLs G n) else ([], [])
theorem gso_yes {G n} (h : PosU G n) : gOk G n = true ∧ gsoV G n = (gDs G n, gLs G n) := ⟨gOk_iff.2 h, if_pos (gOk_iff.2 h)⟩
theorem gso_no {G n i} (hi : i < n) (h : (uE G i i i).sign ≤ 0) : gOk G n = false ∧ gsoV G n = ([], []) := by
  have e : ¬ gOk G n = true := fun e => by
    have h1 := gOk_iff.1 e i hi
    have := Int.sign_eq_one_of_pos h1
    omega
  exact ⟨by simpa using e, if_neg e⟩
theorem posU_succ {G i} (h : PosU G i) (hs : ¬ (uE G i i i).sign ≤ 0) : PosU G (i + 1) := by
  intro l hl
  by_cases e : l = i
  · subst e
    rcases Int.lt_trichotomy (uE G l l l) 0 with h1 | h1 | h1
    · rw [Int.sign_eq_neg_one_of_neg h1] at hs; omega
    · rw [h1] at hs; simp at hs
    · exact h1
  · exact h l (by omega)

theorem uD_Sz {G : Nat → Nat → Int} (hs : SymG G) {n : Nat} (hn : ∀ i j, Sz n (G i j)) {K : Nat} (hp : PosU G K) : ∀ k, k ≤ K → Sz (szU n k + 1) (uD G k)
  | 0, _ => by
    show (1 : Int).natAbs < 2 ^ (n + 1)
    have := Nat.one_le_two_pow (n := n)
    rw [Nat.pow_succ]; simp; omega
  | k + 1, hk => (uE_Sz hs hn hp k (by omega) k k (Nat.le_refl _) (Nat.le_refl _)).up (by simp only [szU]; omega)

end Fw

