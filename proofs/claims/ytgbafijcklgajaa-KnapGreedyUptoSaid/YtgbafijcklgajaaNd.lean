/- What Mul and short of layer 1 answer. -/
import Derived.Test.YtgbafijcklgajaaQKb
import Derived.Test.YtgbafijcklgajaaNb
import Derived.Test.YtgbafijcklgajaaNc
set_option linter.unusedVariables false
set_option linter.unusedSimpArgs false
set_option exponentiation.threshold 70
namespace Fw
open Go Go.Proofs

set_option maxRecDepth 20000 in
set_option maxHeartbeats 1000000 in
theorem c_nat_Mul (a b : List Nat) (hAB : a.length + b.length ≤ 1099511627776) : Fn Try.prog 149 [kN.is a, kN.is b] (kN.is (limbs (nval a * nval b))) := by
  refine Con.enter Try.func149 rfl rfl fun m w => ?_
  refine ST.fact (i := 0) rfl kN_lims fun la => ?_
  refine ST.fact (i := 1) rfl kN_lims fun lb => ?_
  have hla := limbs_len_le la
  have hlb := limbs_len_le lb
  refine CW.seq ?_
  refine CW.region ?_
  refine WP.s .n (O.asg rfl) ?_
  refine WP.nil ?_
  refine QE.next ?_
  refine CW.seq ?_
  refine CW.region ?_
  refine WP.s .n (O.mv rfl) ?_
  refine WP.s .n (O.fn fn197 (evs.c rfl evs.nil) (c_nat_trim a)) ?_
  refine WP.s .n (O.mv rfl) ?_
  refine WP.s .n (O.fn fn197 (evs.c rfl evs.nil) (c_nat_trim b)) ?_
  refine WP.s .n (O.asg rfl) ?_
  refine WP.s .n (O.asg rfl) ?_
  refine WP.nil ?_
  refine QE.next ?_
  refine CW.seq ?_
  refine CW.region ?_
  refine WP.s .n (O.mv rfl) ?_
  refine WP.s .n (O.lenS rfl Try.underlying29) ?_
  refine WP.s .n (O.mv rfl) ?_
  refine WP.s .n (O.lenS rfl Try.underlying29) ?_
  refine WP.s .n (O.add rfl rfl (c := (((limbs (nval a)).length : Int) + ((limbs (nval b)).length : Int))) (w64 (by omega))) ?_
  refine WP.mk (((((limbs (nval a)).length : Int) + ((limbs (nval b)).length : Int))).toNat) .n rfl rfl (by omega) (by omega) Try.underlying29 el121_limb z121_limb fun v1 => ?_
  refine WP.s .n (O.asg rfl) ?_
  refine WP.nil ?_
  refine QE.next ?_
  refine CW.seq ?_
  refine CW.seq ?_
  refine CW.region ?_
  refine WP.s .n (O.mv rfl) ?_
  refine WP.s .n (O.lenS rfl Try.underlying29) ?_
  refine WP.s .n (O.mv rfl) ?_
  refine WP.nil ?_
  refine QE.next ?_
  refine CW.block ?_
  refine CW.loop3 (fun (row : List Nat) (i : Nat) (v : Value) => i ≤ (limbs (nval a)).length ∧ MulO (limbs (nval a)) (limbs (nval b)) row i) (fun (row : List Nat) (i : Nat) (v : Value) => [(0, kN.is (limbs (nval a))), (1, kN.is (limbs (nval b))), (5, VP.ex v), (20, (kInt .i64).is ((limbs (nval a)).length : Int)), (21, (kInt .i64).is (i : Int))]) (fun (row : List Nat) (i : Nat) (v : Value) => [OB.row v 121 kLimb row]) (fun (row : List Nat) (i : Nat) (v : Value) => (limbs (nval a)).length - i) (List.replicate ((limbs (nval a)).length + (limbs (nval b)).length) 0) 0 v1 ⟨Nat.zero_le _, mulO_0 _ _⟩ (Imp.cons rfl (Imp.cons rfl (Imp.cons rfl (Imp.cons rfl (Imp.consLe rfl (is_eq (y := (0 : Int)) (by first | omega | rfl)) Imp.nil))))) (OImp.os (OS.keepLe (OB.row_eq (by first | omega | rfl)) OS.nil)) ?_
  intro row i v ⟨hi, hO⟩
  have hrl := hO.2.1
  refine CW.seq ?_
  refine CW.region ?_
  refine WP.s .n (O.lt rfl rfl) ?_
  refine WP.nil ?_
  refine QE.next ?_
  refine CW.seq ?_
  refine CW.condD rfl (fun h_t22 => ?_) (fun h_t22 => ?_)
  · refine CW.skip ?_
    refine QE.next ?_
    refine CW.seq ?_
    refine CW.block ?_
    refine CW.seq ?_
    refine CW.region ?_
    refine WP.s .n (O.mv rfl) ?_
    refine WP.s .n (O.asg rfl) ?_
    refine WP.nil ?_
    refine QE.next ?_
    refine CW.seq ?_
    refine CW.region ?_
    refine WP.s .n (O.asg rfl) ?_
    refine WP.nil ?_
    refine QE.next ?_
    refine CW.seq ?_
    refine CW.seq ?_
    refine CW.region ?_
    refine WP.s .n (O.mv rfl) ?_
    refine WP.s .n (O.lenS rfl Try.underlying29) ?_
    refine WP.s .n (O.mv rfl) ?_
    refine WP.nil ?_
    refine QE.next ?_
    refine CW.block ?_
    refine CW.loop3 (fun (row : List Nat) (j : Nat) (c : Nat) => j ≤ (limbs (nval b)).length ∧ MulI (limbs (nval a)) (limbs (nval b)) row i j c) (fun (row : List Nat) (j : Nat) (c : Nat) => [(0, kN.is (limbs (nval a))), (1, kN.is (limbs (nval b))), (5, VP.ex v), (6, (kInt .i64).is (i : Int)), (7, (kInt .u64).is (c : Int)), (20, (kInt .i64).is ((limbs (nval a)).length : Int)), (21, (kInt .i64).is (i : Int)), (25, (kInt .i64).is ((limbs (nval b)).length : Int)), (26, (kInt .i64).is (j : Int))]) (fun (row : List Nat) (j : Nat) (c : Nat) => [OB.row v 121 kLimb row]) (fun (row : List Nat) (j : Nat) (c : Nat) => (limbs (nval b)).length - j) row 0 0 ⟨Nat.zero_le _, mulI_0 hO⟩ (Imp.cons rfl (Imp.cons rfl (Imp.cons rfl (Imp.cons rfl (Imp.consLe rfl (is_eq (y := (0 : Int)) (by first | omega | rfl)) (Imp.cons rfl (Imp.cons rfl (Imp.cons rfl (Imp.consLe rfl (is_eq (y := (0 : Int)) (by first | omega | rfl)) Imp.nil))))))))) (OImp.refl _) ?_
    intro row j c ⟨hj, hI⟩
    have hrl := hI.2.1
    have hc := hI.2.2.1
    have hx := getD_lt (limbs_lims (nval a)) i
    have hy := getD_lt (limbs_lims (nval b)) j
    have hz := getD_lt hI.1 (i + j)
    have hxy := mul_bd hx hy
    refine CW.seq ?_
    refine CW.region ?_
    refine WP.s .n (O.lt rfl rfl) ?_
    refine WP.nil ?_
    refine QE.next ?_
    refine CW.seq ?_
    refine CW.condD rfl (fun h_t27 => ?_) (fun h_t27 => ?_)
    · refine CW.skip ?_
      refine QE.next ?_
      refine CW.seq ?_
      refine CW.block ?_
      refine CW.seq ?_
      refine CW.region ?_
      refine WP.s .n (O.mv rfl) ?_
      refine WP.s .n (O.asg rfl) ?_
      refine WP.nil ?_
      refine QE.next ?_
      refine CW.seq ?_
      refine CW.draw (Γ := [.fr ((kInt .u64).is (c : Int)), .fr (kN.is (limbs (nval a))), .fr ((kInt .i64).is (i : Int)), .fr (VP.pim kLimb ((limbs (nval a)).getD i 0)), .fr ((kInt .u32).is (((limbs (nval a)).getD i 0) : Int)), .fr ((kInt .u64).is (((limbs (nval a)).getD i 0) : Int)), .fr (kN.is (limbs (nval b))), .fr ((kInt .i64).is (j : Int)), .fr (VP.pim kLimb ((limbs (nval b)).getD j 0)), .fr ((kInt .u32).is (((limbs (nval b)).getD j 0) : Int)), .fr ((kInt .u64).is (((limbs (nval b)).getD j 0) : Int)), .fr ((kInt .u64).is (((limbs (nval a)).getD i 0 * (limbs (nval b)).getD j 0 : Nat) : Int)), .fr (VP.ex v), .fr ((kInt .i64).is (i : Int)), .fr ((kInt .i64).is (j : Int)), .fr ((kInt .i64).is ((i : Int) + (j : Int))), .fr (VP.pel v ((i + j) * 1)), .fr ((kInt .u32).is ((row.getD (i + j) 0) : Int)), .fr ((kInt .u64).is ((row.getD (i + j) 0) : Int)), .fr ((kInt .u64).is (((limbs (nval a)).getD i 0 * (limbs (nval b)).getD j 0 + row.getD (i + j) 0 : Nat) : Int)), .fr ((kInt .u64).is (((c + ((limbs (nval a)).getD i 0 * (limbs (nval b)).getD j 0 + row.getD (i + j) 0)) : Nat) : Int))]) (lates := [false, false, false, false, false, false, false, false, false, false, false, false, false, false, false, false, false, false, false, false, false]) (by kernel_rfl) (Chk.of rfl (by kernel_rfl) rfl) (fun _ _ _ _ _ h => h) (fun q_ x_ h_ => ?_) (fun σ => ?_)
      · match q_, h_ with
        | 0, h_ => cases h_; exact Ob.f rfl .n fun N => (O.mv rfl)
        | 1, h_ => cases h_; exact Ob.f rfl .n fun N => (O.mv rfl)
        | 2, h_ => cases h_; exact Ob.f rfl .n fun N => (O.mv rfl)
        | 3, h_ => cases h_; exact Ob.f rfl .n fun N => (O.ix i rfl rfl Try.underlying29 ty121 rfl (v := ((limbs (nval a)).getD i 0)) (gd 0 (by omega)))
        | 4, h_ => cases h_; exact Ob.f rfl .n fun N => (OpOk.le (O.ldP rfl ty121) (limb_le _))
        | 5, h_ => cases h_; exact Ob.f rfl .n fun N => (O.cvt rfl Try.underlying121 Try.underlying173 (c := (((limbs (nval a)).getD i 0) : Int)) (wu64 (by omega)))
        | 6, h_ => cases h_; exact Ob.f rfl .n fun N => (O.mv rfl)
        | 7, h_ => cases h_; exact Ob.f rfl .n fun N => (O.mv rfl)
        | 8, h_ => cases h_; exact Ob.f rfl .n fun N => (O.ix j rfl rfl Try.underlying29 ty121 rfl (v := ((limbs (nval b)).getD j 0)) (gd 0 (by omega)))
        | 9, h_ => cases h_; exact Ob.f rfl .n fun N => (OpOk.le (O.ldP rfl ty121) (limb_le _))
        | 10, h_ => cases h_; exact Ob.f rfl .n fun N => (O.cvt rfl Try.underlying121 Try.underlying173 (c := (((limbs (nval b)).getD j 0) : Int)) (wu64 (by omega)))
        | 11, h_ => cases h_; exact Ob.f rfl .n fun N => (O.mul rfl rfl (c := (((limbs (nval a)).getD i 0 * (limbs (nval b)).getD j 0 : Nat) : Int)) (wu64 ⟨by norm_cast, by omega, by omega⟩))
        | 12, h_ => cases h_; exact Ob.f rfl .n fun N => (O.mv rfl)
        | 13, h_ => cases h_; exact Ob.f rfl .n fun N => (O.mv rfl)
        | 14, h_ => cases h_; exact Ob.f rfl .n fun N => (O.mv rfl)
        | 15, h_ => cases h_; exact Ob.f rfl .n fun N => (O.add rfl rfl (c := ((i : Int) + (j : Int))) (w64 (by omega)))
        | 16, h_ => cases h_; exact Ob.f rfl .n fun N => (O.ixR (k := kLimb) (xs := row) (n := ((i : Int) + (j : Int))) (i + j) rfl rfl (mem_app N (mem_at 0 rfl)) Try.underlying29 ty121 (by omega) (by omega))
        | 17, h_ => cases h_; exact Ob.f rfl .n fun N => (OpOk.le (O.ldR (i + j) rfl (mem_app N (mem_at 0 rfl)) (Lens.id _) rfl (y := (row.getD (i + j) 0)) (gd 0 (by omega)) ty121 rfl) (limb_le _))
        | 18, h_ => cases h_; exact Ob.f rfl .n fun N => (O.cvt rfl Try.underlying121 Try.underlying173 (c := ((row.getD (i + j) 0) : Int)) (wu64 (by omega)))
        | 19, h_ => cases h_; exact Ob.f rfl .n fun N => (O.add rfl rfl (c := (((limbs (nval a)).getD i 0 * (limbs (nval b)).getD j 0 + row.getD (i + j) 0 : Nat) : Int)) (wu64 (by omega)))
        | 20, h_ => cases h_; exact Ob.f rfl .n fun N => (O.add rfl rfl (c := (((c + ((limbs (nval a)).getD i 0 * (limbs (nval b)).getD j 0 + row.getD (i + j) 0)) : Nat) : Int)) (wu64 (by omega)))
        | n_ + 21, h_ => simp at h_
      refine WP.s .n (O.asg rfl) ?_
      refine WP.nil ?_
      refine QE.next ?_
      refine CW.seq ?_
      refine CW.region ?_
      refine WP.s .n (O.mv rfl) ?_
      refine WP.s .n (O.mv rfl) ?_
      refine WP.s .n (O.mv rfl) ?_
      refine WP.s .n (O.add rfl rfl (c := ((i : Int) + (j : Int))) (w64 (by omega))) ?_
      refine WP.s .n (O.mv rfl) ?_
      refine WP.s .n (O.cvt rfl Try.underlying173 Try.underlying121 (c := (((c + ((limbs (nval a)).getD i 0 * (limbs (nval b)).getD j 0 + row.getD (i + j) 0)) % 4294967296 : Nat) : Int)) (wr32 rfl)) ?_
      refine WP.s .n (O.ixR (k := kLimb) (xs := row) (n := ((i : Int) + (j : Int))) (i + j) rfl rfl (mem_at 0 rfl) Try.underlying29 ty121 (by omega) (by omega)) ?_
      refine WP.t .n (O.stR 0 (i + j) rfl rfl (Lens.id _) rfl (y0 := (row.getD (i + j) 0)) (gd 0 (by omega)) ty121 rfl (u32_limb (x := ((c + ((limbs (nval a)).getD i 0 * (limbs (nval b)).getD j 0 + row.getD (i + j) 0)) % 4294967296 : Nat)) (by omega))) ?_
      refine WP.nil ?_
      refine QE.next ?_
      refine CW.region ?_
      refine WP.s .n (O.mv rfl) ?_
      refine WP.s .n (O.shr rfl rfl (by omega) (c := (((c + ((limbs (nval a)).getD i 0 * (limbs (nval b)).getD j 0 + row.getD (i + j) 0)) / 2 ^ 32 : Nat) : Int)) (shrN 32 rfl rfl (by decide))) ?_
      refine WP.s .n (O.asg rfl) ?_
      refine WP.nil ?_
      refine QE.blkN ?_
      refine QE.next ?_
      refine CW.region ?_
      refine WP.s .n (O.add rfl rfl (c := ((j : Int) + 1)) (w64 (by omega))) ?_
      refine WP.s .n (O.mv rfl) ?_
      refine WP.nil ?_
      exact QE.round3 (row.set (i + j) ((c + ((limbs (nval a)).getD i 0 * (limbs (nval b)).getD j 0 + row.getD (i + j) 0)) % 4294967296)) (j + 1) ((c + ((limbs (nval a)).getD i 0 * (limbs (nval b)).getD j 0 + row.getD (i + j) 0)) / 2 ^ 32) (by omega) ⟨by omega, mulI_s (limbs_lims _) (limbs_lims _) (by omega) (by omega) hI⟩ (Imp.cons rfl (Imp.cons rfl (Imp.cons rfl (Imp.cons rfl (Imp.consLe rfl (is_eq (y := ((((c + ((limbs (nval a)).getD i 0 * (limbs (nval b)).getD j 0 + row.getD (i + j) 0)) / 2 ^ 32) : Nat) : Int)) (by first | omega | rfl)) (Imp.cons rfl (Imp.cons rfl (Imp.cons rfl (Imp.consLe rfl (is_eq (y := (((j + 1) : Nat) : Int)) (by first | omega | rfl)) Imp.nil))))))))) (OImp.os (OS.keepLe (OB.row_eq (by first | omega | rfl)) OS.nil))
    · refine CW.exit ?_
      refine QE.thenE ?_
      refine QE.thenE ?_
      refine QE.blkH ?_
      refine QE.next ?_
      refine CW.region ?_
      refine WP.s .n (O.mv rfl) ?_
      refine WP.s .n (O.mv rfl) ?_
      refine WP.s .n (O.mv rfl) ?_
      refine WP.s .n (O.lenS rfl Try.underlying29) ?_
      refine WP.s .n (O.add rfl rfl (c := ((i : Int) + ((limbs (nval b)).length : Int))) (w64 (by omega))) ?_
      refine WP.s .n (O.mv rfl) ?_
      refine WP.s .n (O.cvt rfl Try.underlying173 Try.underlying121 (c := (c : Int)) (wrs32 (by omega))) ?_
      refine WP.s .n (O.ixR (k := kLimb) (xs := row) (n := ((i : Int) + ((limbs (nval b)).length : Int))) (i + (limbs (nval b)).length) rfl rfl (mem_at 0 rfl) Try.underlying29 ty121 (by omega) (by omega)) ?_
      refine WP.t .n (O.stR 0 (i + (limbs (nval b)).length) rfl rfl (Lens.id _) rfl (y0 := (row.getD (i + (limbs (nval b)).length) 0)) (gd 0 (by omega)) ty121 rfl (u32_limb (x := c) (by omega))) ?_
      refine WP.nil ?_
      refine QE.blkN ?_
      refine QE.next ?_
      refine CW.region ?_
      refine WP.s .n (O.add rfl rfl (c := ((i : Int) + 1)) (w64 (by omega))) ?_
      refine WP.s .n (O.mv rfl) ?_
      refine WP.nil ?_
      have hjb : j = (limbs (nval b)).length := by omega
      exact QE.round3 (row.set (i + (limbs (nval b)).length) c) (i + 1) v (by omega) ⟨by omega, mulI_end (by omega) (hjb ▸ hI)⟩ (Imp.cons rfl (Imp.cons rfl (Imp.cons rfl (Imp.cons rfl (Imp.consLe rfl (is_eq (y := (((i + 1) : Nat) : Int)) (by first | omega | rfl)) Imp.nil))))) (OImp.refl _)
  · refine CW.exit ?_
    refine QE.thenE ?_
    refine QE.thenE ?_
    refine QE.blkH ?_
    refine QE.next ?_
    refine CW.seq ?_
    refine CW.region ?_
    refine WP.s .n (O.mv rfl) ?_
    refine ST.freeze 0 rfl (.keep (i := 0) rfl (.keep (i := 1) rfl (.hit (i := 5) rfl (.keep (i := 20) rfl (.keep (i := 21) rfl (.keep (i := 22) rfl (.hit (i := 69) rfl .nil))))))) ?_
    refine WP.s .n (O.fn fn197 (evs.c rfl evs.nil) (c_nat_trim row)) ?_
    refine WP.s .n (O.asg rfl) ?_
    refine WP.nil ?_
    refine QE.next ?_
    refine CW.ret ?_
    refine ST.told 4 rfl (is_eq (y := (limbs (nval a * nval b))) (by rw [mulO_end (by omega) hO, nval_limbs, nval_limbs])) ?_
    exact QE.done (.inl rfl) rfl (ResOk.t rfl ResOk.nil) (OImp.sub (List.nil_sublist _)) ⟨rfl, rfl⟩

set_option maxRecDepth 20000 in
set_option maxHeartbeats 1000000 in
theorem c_nat_short (l : List Nat) (d : Nat) (hd : d ≠ 0) : Fn Try.prog 209 [kN.is l, kLimb.is d] (VP.tup [kN.is (limbs (nval l / d)), (kInt .u32).is ((nval l % d : Nat) : Int)]) := by
  refine Con.enter Try.func209 rfl rfl fun m w => ?_
  refine ST.fact (i := 0) rfl sl_len fun hB => ?_
  refine ST.fact (i := 0) rfl kN_lims fun hL => ?_
  refine ST.fact (i := 1) rfl limb_lt fun hdl => ?_
  refine ST.told (q := (kInt .u32).is (d : Int)) 1 rfl (limb_le _) ?_
  refine CW.seq ?_
  refine CW.region ?_
  refine WP.s .n (O.asg rfl) ?_
  refine WP.s .n (O.asg rfl) ?_
  refine WP.nil ?_
  refine QE.next ?_
  refine CW.seq ?_
  refine CW.region ?_
  refine WP.s .n (O.mv rfl) ?_
  refine WP.s .n (O.lenS rfl Try.underlying29) ?_
  refine WP.mk l.length .n rfl rfl rfl (by omega) Try.underlying29 el121_limb z121_limb fun v1 => ?_
  refine WP.s .n (O.asg rfl) ?_
  refine WP.nil ?_
  refine QE.next ?_
  refine CW.seq ?_
  refine CW.region ?_
  refine WP.s .n (O.asg rfl) ?_
  refine WP.nil ?_
  refine QE.next ?_
  refine CW.seq ?_
  refine CW.seq ?_
  refine CW.region ?_
  refine WP.s .n (O.mv rfl) ?_
  refine WP.s .n (O.lenS rfl Try.underlying29) ?_
  refine WP.s .n (O.sub rfl rfl (c := ((l.length : Int) - 1)) (w64 (by omega))) ?_
  refine WP.s .n (O.asg rfl) ?_
  refine WP.nil ?_
  refine QE.next ?_
  refine CW.block ?_
  refine CW.loop3 (fun (row : List Nat) (i : Nat) (r : Nat) => i ≤ l.length ∧ ShortR l row d i r) (fun (row : List Nat) (i : Nat) (r : Nat) => [(0, kN.is l), (1, (kInt .u32).is (d : Int)), (6, VP.ex v1), (7, (kInt .u64).is (r : Int)), (8, (kInt .i64).is ((i : Int) - 1))]) (fun (row : List Nat) (i : Nat) (r : Nat) => [OB.row v1 121 kLimb row]) (fun (row : List Nat) (i : Nat) (r : Nat) => i) (List.replicate l.length 0) l.length 0 ⟨Nat.le_refl _, shortR_0 hd⟩ (Imp.cons rfl (Imp.cons rfl (Imp.cons rfl (Imp.consLe rfl (is_eq (y := (0 : Int)) (by first | omega | rfl)) (Imp.consLe rfl (is_eq (y := ((l.length : Nat) : Int) - 1) (by first | omega | rfl)) Imp.nil))))) (OImp.refl _) ?_
  intro row i r ⟨hi, hS⟩
  have hrl := hS.2.1
  have hr := hS.2.2.1
  have hx := getD_lt hL (i - 1)
  have hq := short_q hr hx
  refine CW.seq ?_
  refine CW.seq ?_
  refine CW.region ?_
  refine WP.s .n (O.mv rfl) ?_
  refine WP.s .n (O.ge rfl rfl) ?_
  refine WP.nil ?_
  refine QE.next ?_
  refine CW.condD rfl (fun h_t16 => ?_) (fun h_t16 => ?_)
  · refine CW.skip ?_
    refine QE.next ?_
    refine CW.seq ?_
    refine CW.block ?_
    refine CW.seq ?_
    refine CW.region ?_
    refine WP.s .n (O.mv rfl) ?_
    refine WP.s .n (O.shl rfl rfl (by omega) (c := ((r * 2 ^ 32 : Nat) : Int)) (shlN 32 rfl rfl (by decide) (by omega))) ?_
    refine WP.s .n (O.mv rfl) ?_
    refine WP.s .n (O.mv rfl) ?_
    refine WP.s .n (O.ix (i - 1) rfl rfl Try.underlying29 ty121 (by omega) (v := (l.getD (i - 1) 0)) (gd 0 (by omega))) ?_
    refine WP.s .n (OpOk.le (O.ldP rfl ty121) (limb_le _)) ?_
    refine WP.s .n (O.cvt rfl Try.underlying121 Try.underlying173 (c := ((l.getD (i - 1) 0) : Int)) (wu64 (by omega))) ?_
    refine WP.s .n (O.or rfl rfl (c := ((r * 2 ^ 32 + l.getD (i - 1) 0 : Nat) : Int)) (orN 32 rfl rfl hx (by omega))) ?_
    refine WP.s .n (O.asg rfl) ?_
    refine WP.nil ?_
    refine QE.next ?_
    refine CW.seq ?_
    refine CW.region ?_
    refine WP.s .n (O.mv rfl) ?_
    refine WP.s .n (O.mv rfl) ?_
    refine WP.s .n (O.mv rfl) ?_
    refine WP.s .n (O.mv rfl) ?_
    refine WP.s .n (O.cvt rfl Try.underlying121 Try.underlying173 (c := (d : Int)) (wu64 (by omega))) ?_
    refine WP.s .n (O.quo rfl rfl (by omega) (c := (((r * 2 ^ 32 + l.getD (i - 1) 0) / d : Nat) : Int)) (quoN d rfl rfl (by omega))) ?_
    refine WP.s .n (O.cvt rfl Try.underlying173 Try.underlying121 (c := (((r * 2 ^ 32 + l.getD (i - 1) 0) / d : Nat) : Int)) (wrs32 ⟨rfl, short_q hr hx⟩)) ?_
    refine WP.s .n (O.ixR (k := kLimb) (xs := row) (n := (i : Int) - 1) (i - 1) rfl rfl (mem_at 0 rfl) Try.underlying29 ty121 (by omega) (by omega)) ?_
    refine WP.t .n (O.stR 0 (i - 1) rfl rfl (Lens.id _) rfl (y0 := (row.getD (i - 1) 0)) (gd 0 (by omega)) ty121 rfl (u32_limb (x := ((r * 2 ^ 32 + l.getD (i - 1) 0) / d : Nat)) (by omega))) ?_
    refine WP.nil ?_
    refine QE.next ?_
    refine CW.region ?_
    refine WP.s .n (O.mv rfl) ?_
    refine WP.s .n (O.mv rfl) ?_
    refine WP.s .n (O.cvt rfl Try.underlying121 Try.underlying173 (c := (d : Int)) (wu64 (by omega))) ?_
    refine WP.s .n (O.rem rfl rfl (by omega) (c := (((r * 2 ^ 32 + l.getD (i - 1) 0) % d : Nat) : Int)) (tmodN d rfl rfl)) ?_
    refine WP.s .n (O.asg rfl) ?_
    refine WP.nil ?_
    refine QE.blkN ?_
    refine QE.next ?_
    refine CW.region ?_
    refine WP.s .n (O.mv rfl) ?_
    refine WP.s .n (O.sub rfl rfl (c := (((i : Int) - 1) - 1)) (w64 (by omega))) ?_
    refine WP.s .n (O.asg rfl) ?_
    refine WP.nil ?_
    exact QE.round3 (row.set (i - 1) ((r * 2 ^ 32 + l.getD (i - 1) 0) / d)) (i - 1) ((r * 2 ^ 32 + l.getD (i - 1) 0) % d) (by omega) ⟨by omega, shortR_s hL hdl (by omega) (by omega) hS⟩ (Imp.cons rfl (Imp.cons rfl (Imp.cons rfl (Imp.consLe rfl (is_eq (y := ((((r * 2 ^ 32 + l.getD (i - 1) 0) % d) : Nat) : Int)) (by first | omega | rfl)) (Imp.consLe rfl (is_eq (y := (((i - 1) : Nat) : Int) - 1) (by first | omega | rfl)) Imp.nil))))) (OImp.os (OS.keepLe (OB.row_eq (by first | omega | rfl)) OS.nil))
  · refine CW.exit ?_
    refine QE.thenE ?_
    refine QE.thenE ?_
    refine QE.blkH ?_
    refine QE.next ?_
    refine CW.seq ?_
    refine CW.region ?_
    refine WP.s .n (O.mv rfl) ?_
    refine ST.freeze 0 rfl (.keep (i := 0) rfl (.keep (i := 1) rfl (.hit (i := 6) rfl (.keep (i := 7) rfl (.keep (i := 8) rfl (.keep (i := 15) rfl (.keep (i := 16) rfl (.hit (i := 39) rfl .nil)))))))) ?_
    refine WP.s .n (O.fn fn197 (evs.c rfl evs.nil) (c_nat_trim row)) ?_
    refine WP.s .n (O.mv rfl) ?_
    refine WP.s .n (O.cvt rfl Try.underlying173 Try.underlying121 (c := (r : Int)) (wrs32 (by omega))) ?_
    refine WP.s .n (O.asg rfl) ?_
    refine WP.s .n (O.asg rfl) ?_
    refine WP.nil ?_
    refine QE.next ?_
    refine CW.ret ?_
    refine ST.told 4 rfl (is_eq (y := (limbs (nval l / d))) (by rw [(shortR_end (by omega) hS).1])) ?_
    refine ST.told 5 rfl (is_eq (y := ((nval l % d : Nat) : Int)) (by rw [(shortR_end (by omega) hS).2])) ?_
    exact QE.done (.inl rfl) rfl (ResOk.t rfl (ResOk.t rfl ResOk.nil)) (OImp.sub (List.nil_sublist _)) ⟨rfl, rfl⟩

end Fw
