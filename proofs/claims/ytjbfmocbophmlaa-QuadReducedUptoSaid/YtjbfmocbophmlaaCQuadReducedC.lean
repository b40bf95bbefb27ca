/- Frame, facts and contracts for QuadReduced. -/
import Derived.Test.YtjbfmocbophmlaaCQuadReducedB
/- What Mul and short of layer 1 answer. -/
set_option linter.unusedVariables false
set_option linter.unusedSimpArgs false
set_option exponentiation.threshold 70
namespace Fw
open Go Go.Proofs

set_option maxRecDepth 20000 in
set_option maxHeartbeats 1000000 in
theorem c_nat_Mul (a b : List Nat) (hAB : a.length + b.length ≤ 1099511627776) : Fn Try.prog 37 [kN.is a, kN.is b] (kN.is (limbs (nval a * nval b))) := by
  refine Con.enter Try.func37 rfl rfl fun m w => ?_
  refine ST.fact (i := 0) rfl kN_lims fun la => ?_
  refine ST.fact (i := 1) rfl kN_lims fun lb => ?_
  have hla := limbs_len_le la
  have hlb := limbs_len_le lb
  refine CW.seq ?_
  refine CW.region ?_
  refine WP.s .n (O.asg rfl) ?_
  refine WP.nil ?_
  refine QE.next ?_
  refine CW.seq ?_
  refine CW.region ?_
  refine WP.s .n (O.mv rfl) ?_
  refine WP.s .n (O.fn fn49 (evs.c rfl evs.nil) (c_nat_trim a)) ?_
  refine WP.s .n (O.mv rfl) ?_
  refine WP.s .n (O.fn fn49 (evs.c rfl evs.nil) (c_nat_trim b)) ?_
  refine WP.s .n (O.asg rfl) ?_
  refine WP.s .n (O.asg rfl) ?_
  refine WP.nil ?_
  refine QE.next ?_
  refine CW.seq ?_
  refine CW.region ?_
  refine WP.s .n (O.mv rfl) ?_
  refine WP.s .n (O.lenS rfl Try.underlying22) ?_
  refine WP.s .n (O.mv rfl) ?_
  refine WP.s .n (O.lenS rfl Try.underlying22) ?_
  refine WP.s .n (O.add rfl rfl (c := (((limbs (nval a)).length : Int) + ((limbs (nval b)).length : Int))) (w64 (by omega))) ?_
  refine WP.mk (((((limbs (nval a)).length : Int) + ((limbs (nval b)).length : Int))).toNat) .n rfl rfl (by omega) (by omega) Try.underlying22 el50_limb z50_limb fun v1 => ?_
  refine WP.s .n (O.asg rfl) ?_
  refine WP.nil ?_
  refine QE.next ?_
  refine CW.seq ?_
  refine CW.seq ?_
  refine CW.region ?_
  refine WP.s .n (O.mv rfl) ?_
  refine WP.s .n (O.lenS rfl Try.underlying22) ?_
  refine WP.s .n (O.mv rfl) ?_
  refine WP.nil ?_
  refine QE.next ?_
  refine CW.block ?_
  refine CW.loop3 (fun (row : List Nat) (i : Nat) (v : Value) => i ≤ (limbs (nval a)).length ∧ MulO (limbs (nval a)) (limbs (nval b)) row i) (fun (row : List Nat) (i : Nat) (v : Value) => [(0, kN.is (limbs (nval a))), (1, kN.is (limbs (nval b))), (5, VP.ex v), (20, (kInt .i64).is ((limbs (nval a)).length : Int)), (21, (kInt .i64).is (i : Int))]) (fun (row : List Nat) (i : Nat) (v : Value) => [OB.row v 50 kLimb row]) (fun (row : List Nat) (i : Nat) (v : Value) => (limbs (nval a)).length - i) (List.replicate ((limbs (nval a)).length + (limbs (nval b)).length) 0) 0 v1 ⟨Nat.zero_le _, mulO_0 _ _⟩ (Imp.cons rfl (Imp.cons rfl (Imp.cons rfl (Imp.cons rfl (Imp.consLe rfl (is_eq (y := (0 : Int)) (by first | omega | rfl)) Imp.nil))))) (OImp.os (OS.keepLe (OB.row_eq (by first | omega | rfl)) OS.nil)) ?_
  intro row i v ⟨hi, hO⟩
  have hrl := hO.2.1
  refine CW.seq ?_
  refine CW.region ?_
  refine WP.s .n (O.lt rfl rfl) ?_
  refine WP.nil ?_
  refine QE.next ?_
  refine CW.seq ?_
  refine CW.condD rfl (fun h_t22 => ?_) (fun h_t22 => ?_)
  · refine CW.skip ?_
    refine QE.next ?_
    refine CW.seq ?_
    refine CW.block ?_
    refine CW.seq ?_
    refine CW.region ?_
    refine WP.s .n (O.mv rfl) ?_
    refine WP.s .n (O.asg rfl) ?_
    refine WP.nil ?_
    refine QE.next ?_
    refine CW.seq ?_
    refine CW.region ?_
    refine WP.s .n (O.asg rfl) ?_
    refine WP.nil ?_
    refine QE.next ?_
    refine CW.seq ?_
    refine CW.seq ?_
    refine CW.region ?_
    refine WP.s .n (O.mv rfl) ?_
    refine WP.s .n (O.lenS rfl Try.underlying22) ?_
    refine WP.s .n (O.mv rfl) ?_
    refine WP.nil ?_
    refine QE.next ?_
    refine CW.block ?_
    refine CW.loop3 (fun (row : List Nat) (j : Nat) (c : Nat) => j ≤ (limbs (nval b)).length ∧ MulI (limbs (nval a)) (limbs (nval b)) row i j c) (fun (row : List Nat) (j : Nat) (c : Nat) => [(0, kN.is (limbs (nval a))), (1, kN.is (limbs (nval b))), (5, VP.ex v), (6, (kInt .i64).is (i : Int)), (7, (kInt .u64).is (c : Int)), (20, (kInt .i64).is ((limbs (nval a)).length : Int)), (21, (kInt .i64).is (i : Int)), (25, (kInt .i64).is ((limbs (nval b)).length : Int)), (26, (kInt .i64).is (j : Int))]) (fun (row : List Nat) (j : Nat) (c : Nat) => [OB.row v 50 kLimb row]) (fun (row : List Nat) (j : Nat) (c : Nat) => (limbs (nval b)).length - j) row 0 0 ⟨Nat.zero_le _, mulI_0 hO⟩ (Imp.cons rfl (Imp.cons rfl (Imp.cons rfl (Imp.cons rfl (Imp.consLe rfl (is_eq (y := (0 : Int)) (by first | omega | rfl)) (Imp.cons rfl (Imp.cons rfl (Imp.cons rfl (Imp.consLe rfl (is_eq (y := (0 : Int)) (by first | omega | rfl)) Imp.nil))))))))) (OImp.refl _) ?_
    intro row j c ⟨hj, hI⟩
    have hrl := hI.2.1
    have hc := hI.2.2.1
    have hx := getD_lt (limbs_lims (nval a)) i
    have hy := getD_lt (limbs_lims (nval b)) j
    have hz := getD_lt hI.1 (i + j)
    have hxy := mul_bd hx hy
    refine CW.seq ?_
    refine CW.region ?_
    refine WP.s .n (O.lt rfl rfl) ?_
    refine WP.nil ?_
    refine QE.next ?_
    refine CW.seq ?_
    refine CW.condD rfl (fun h_t27 => ?_) (fun h_t27 => ?_)
    · refine CW.skip ?_
      refine QE.next ?_
      refine CW.seq ?_
      refine CW.block ?_
      refine CW.seq ?_
      refine CW.region ?_
      refine WP.s .n (O.mv rfl) ?_
      refine WP.s .n (O.asg rfl) ?_
      refine WP.nil ?_
      refine QE.next ?_
      refine CW.seq ?_
      refine CW.draw (Γ := [.fr ((kInt .u64).is (c : Int)), .fr (kN.is (limbs (nval a))), .fr ((kInt .i64).is (i : Int)), .fr (VP.pim kLimb ((limbs (nval a)).getD i 0)), .fr ((kInt .u32).is (((limbs (nval a)).getD i 0) : Int)), .fr ((kInt .u64).is (((limbs (nval a)).getD i 0) : Int)), .fr (kN.is (limbs (nval b))), .fr ((kInt .i64).is (j : Int)), .fr (VP.pim kLimb ((limbs (nval b)).getD j 0)), .fr ((kInt .u32).is (((limbs (nval b)).getD j 0) : Int)), .fr ((kInt .u64).is (((limbs (nval b)).getD j 0) : Int)), .fr ((kInt .u64).is (((limbs (nval a)).getD i 0 * (limbs (nval b)).getD j 0 : Nat) : Int)), .fr (VP.ex v), .fr ((kInt .i64).is (i : Int)), .fr ((kInt .i64).is (j : Int)), .fr ((kInt .i64).is ((i : Int) + (j : Int))), .fr (VP.pel v ((i + j) * 1)), .fr ((kInt .u32).is ((row.getD (i + j) 0) : Int)), .fr ((kInt .u64).is ((row.getD (i + j) 0) : Int)), .fr ((kInt .u64).is (((limbs (nval a)).getD i 0 * (limbs (nval b)).getD j 0 + row.getD (i + j) 0 : Nat) : Int)), .fr ((kInt .u64).is (((c + ((limbs (nval a)).getD i 0 * (limbs (nval b)).getD j 0 + row.getD (i + j) 0)) : Nat) : Int))]) (lates := [false, false, false, false, false, false, false, false, false, false, false, false, false, false, false, false, false, false, false, false, false]) (by kernel_rfl) (Chk.of rfl (by kernel_rfl) rfl) (fun _ _ _ _ _ h => h) (fun q_ x_ h_ => ?_) (fun σ => ?_)
      · match q_, h_ with
        | 0, h_ => cases h_; exact Ob.f rfl .n fun N => (O.mv rfl)
        | 1, h_ => cases h_; exact Ob.f rfl .n fun N => (O.mv rfl)
        | 2, h_ => cases h_; exact Ob.f rfl .n fun N => (O.mv rfl)
        | 3, h_ => cases h_; exact Ob.f rfl .n fun N => (O.ix i rfl rfl Try.underlying22 ty50 rfl (v := ((limbs (nval a)).getD i 0)) (gd 0 (by omega)))
        | 4, h_ => cases h_; exact Ob.f rfl .n fun N => (OpOk.le (O.ldP rfl ty50) (limb_le _))
        | 5, h_ => cases h_; exact Ob.f rfl .n fun N => (O.cvt rfl Try.underlying50 Try.underlying62 (c := (((limbs (nval a)).getD i 0) : Int)) (wu64 (by omega)))
        | 6, h_ => cases h_; exact Ob.f rfl .n fun N => (O.mv rfl)
        | 7, h_ => cases h_; exact Ob.f rfl .n fun N => (O.mv rfl)
        | 8, h_ => cases h_; exact Ob.f rfl .n fun N => (O.ix j rfl rfl Try.underlying22 ty50 rfl (v := ((limbs (nval b)).getD j 0)) (gd 0 (by omega)))
        | 9, h_ => cases h_; exact Ob.f rfl .n fun N => (OpOk.le (O.ldP rfl ty50) (limb_le _))
        | 10, h_ => cases h_; exact Ob.f rfl .n fun N => (O.cvt rfl Try.underlying50 Try.underlying62 (c := (((limbs (nval b)).getD j 0) : Int)) (wu64 (by omega)))
        | 11, h_ => cases h_; exact Ob.f rfl .n fun N => (O.mul rfl rfl (c := (((limbs (nval a)).getD i 0 * (limbs (nval b)).getD j 0 : Nat) : Int)) (wu64 ⟨by norm_cast, by omega, by omega⟩))
        | 12, h_ => cases h_; exact Ob.f rfl .n fun N => (O.mv rfl)
        | 13, h_ => cases h_; exact Ob.f rfl .n fun N => (O.mv rfl)
        | 14, h_ => cases h_; exact Ob.f rfl .n fun N => (O.mv rfl)
        | 15, h_ => cases h_; exact Ob.f rfl .n fun N => (O.add rfl rfl (c := ((i : Int) + (j : Int))) (w64 (by omega)))
        | 16, h_ => cases h_; exact Ob.f rfl .n fun N => (O.ixR (k := kLimb) (xs := row) (n := ((i : Int) + (j : Int))) (i + j) rfl rfl (mem_app N (mem_at 0 rfl)) Try.underlying22 ty50 (by omega) (by omega))
        | 17, h_ => cases h_; exact Ob.f rfl .n fun N => (OpOk.le (O.ldR (i + j) rfl (mem_app N (mem_at 0 rfl)) (Lens.id _) rfl (y := (row.getD (i + j) 0)) (gd 0 (by omega)) ty50 rfl) (limb_le _))
        | 18, h_ => cases h_; exact Ob.f rfl .n fun N => (O.cvt rfl Try.underlying50 Try.underlying62 (c := ((row.getD (i + j) 0) : Int)) (wu64 (by omega)))
        | 19, h_ => cases h_; exact Ob.f rfl .n fun N => (O.add rfl rfl (c := (((limbs (nval a)).getD i 0 * (limbs (nval b)).getD j 0 + row.getD (i + j) 0 : Nat) : Int)) (wu64 (by omega)))
        | 20, h_ => cases h_; exact Ob.f rfl .n fun N => (O.add rfl rfl (c := (((c + ((limbs (nval a)).getD i 0 * (limbs (nval b)).getD j 0 + row.getD (i + j) 0)) : Nat) : Int)) (wu64 (by omega)))
        | n_ + 21, h_ => simp at h_
      refine WP.s .n (O.asg rfl) ?_
      refine WP.nil ?_
      refine QE.next ?_
      refine CW.seq ?_
      refine CW.region ?_
      refine WP.s .n (O.mv rfl) ?_
      refine WP.s .n (O.mv rfl) ?_
      refine WP.s .n (O.mv rfl) ?_
      refine WP.s .n (O.add rfl rfl (c := ((i : Int) + (j : Int))) (w64 (by omega))) ?_
      refine WP.s .n (O.mv rfl) ?_
      refine WP.s .n (O.cvt rfl Try.underlying62 Try.underlying50 (c := (((c + ((limbs (nval a)).getD i 0 * (limbs (nval b)).getD j 0 + row.getD (i + j) 0)) % 4294967296 : Nat) : Int)) (wr32 rfl)) ?_
      refine WP.s .n (O.ixR (k := kLimb) (xs := row) (n := ((i : Int) + (j : Int))) (i + j) rfl rfl (mem_at 0 rfl) Try.underlying22 ty50 (by omega) (by omega)) ?_
      refine WP.t .n (O.stR 0 (i + j) rfl rfl (Lens.id _) rfl (y0 := (row.getD (i + j) 0)) (gd 0 (by omega)) ty50 rfl (u32_limb (x := ((c + ((limbs (nval a)).getD i 0 * (limbs (nval b)).getD j 0 + row.getD (i + j) 0)) % 4294967296 : Nat)) (by omega))) ?_
      refine WP.nil ?_
      refine QE.next ?_
      refine CW.region ?_
      refine WP.s .n (O.mv rfl) ?_
      refine WP.s .n (O.shr rfl rfl (by omega) (c := (((c + ((limbs (nval a)).getD i 0 * (limbs (nval b)).getD j 0 + row.getD (i + j) 0)) / 2 ^ 32 : Nat) : Int)) (shrN 32 rfl rfl (by decide))) ?_
      refine WP.s .n (O.asg rfl) ?_
      refine WP.nil ?_
      refine QE.blkN ?_
      refine QE.next ?_
      refine CW.region ?_
      refine WP.s .n (O.add rfl rfl (c := ((j : Int) + 1)) (w64 (by omega))) ?_
      refine WP.s .n (O.mv rfl) ?_
      refine WP.nil ?_
      exact QE.round3 (row.set (i + j) ((c + ((limbs (nval a)).getD i 0 * (limbs (nval b)).getD j 0 + row.getD (i + j) 0)) % 4294967296)) (j + 1) ((c + ((limbs (nval a)).getD i 0 * (limbs (nval b)).getD j 0 + row.getD (i + j) 0)) / 2 ^ 32) (by omega) ⟨by omega, mulI_s (limbs_lims _) (limbs_lims _) (by omega) (by omega) hI⟩ (Imp.cons rfl (Imp.cons rfl (Imp.cons rfl (Imp.cons rfl (Imp.consLe rfl (is_eq (y := ((((c + ((limbs (nval a)).getD i 0 * (limbs (nval b)).getD j 0 + row.getD (i + j) 0)) / 2 ^ 32) : Nat) : Int)) (by first | omega | rfl)) (Imp.cons rfl (Imp.cons rfl (Imp.cons rfl (Imp.consLe rfl (is_eq (y := (((j + 1) : Nat) : Int)) (by first | omega | rfl)) Imp.nil))))))))) (OImp.os (OS.keepLe (OB.row_eq (by first | omega | rfl)) OS.nil))
    · refine CW.exit ?_
      refine QE.thenE ?_
      refine QE.thenE ?_
      refine QE.blkH ?_
      refine QE.next ?_
      refine CW.region ?_
      refine WP.s .n (O.mv rfl) ?_
      refine WP.s .n (O.mv rfl) ?_
      refine WP.s .n (O.mv rfl) ?_
      refine WP.s .n (O.lenS rfl Try.underlying22) ?_
      refine WP.s .n (O.add rfl rfl (c := ((i : Int) + ((limbs (nval b)).length : Int))) (w64 (by omega))) ?_
      refine WP.s .n (O.mv rfl) ?_
      refine WP.s .n (O.cvt rfl Try.underlying62 Try.underlying50 (c := (c : Int)) (wrs32 (by omega))) ?_
      refine WP.s .n (O.ixR (k := kLimb) (xs := row) (n := ((i : Int) + ((limbs (nval b)).length : Int))) (i + (limbs (nval b)).length) rfl rfl (mem_at 0 rfl) Try.underlying22 ty50 (by omega) (by omega)) ?_
      refine WP.t .n (O.stR 0 (i + (limbs (nval b)).length) rfl rfl (Lens.id _) rfl (y0 := (row.getD (i + (limbs (nval b)).length) 0)) (gd 0 (by omega)) ty50 rfl (u32_limb (x := c) (by omega))) ?_
      refine WP.nil ?_
      refine QE.blkN ?_
      refine QE.next ?_
      refine CW.region ?_
      refine WP.s .n (O.add rfl rfl (c := ((i : Int) + 1)) (w64 (by omega))) ?_
      refine WP.s .n (O.mv rfl) ?_
      refine WP.nil ?_
      have hjb : j = (limbs (nval b)).length := by omega
      exact QE.round3 (row.set (i + (limbs (nval b)).length) c) (i + 1) v (by omega) ⟨by omega, mulI_end (by omega) (hjb ▸ hI)⟩ (Imp.cons rfl (Imp.cons rfl (Imp.cons rfl (Imp.cons rfl (Imp.consLe rfl (is_eq (y := (((i + 1) : Nat) : Int)) (by first | omega | rfl)) Imp.nil))))) (OImp.refl _)
  · refine CW.exit ?_
    refine QE.thenE ?_
    refine QE.thenE ?_
    refine QE.blkH ?_
    refine QE.next ?_
    refine CW.seq ?_
    refine CW.region ?_
    refine WP.s .n (O.mv rfl) ?_
    refine ST.freeze 0 rfl (.keep (i := 0) rfl (.keep (i := 1) rfl (.hit (i := 5) rfl (.keep (i := 20) rfl (.keep (i := 21) rfl (.keep (i := 22) rfl (.hit (i := 69) rfl .nil))))))) ?_
    refine WP.s .n (O.fn fn49 (evs.c rfl evs.nil) (c_nat_trim row)) ?_
    refine WP.s .n (O.asg rfl) ?_
    refine WP.nil ?_
    refine QE.next ?_
    refine CW.ret ?_
    refine ST.told 4 rfl (is_eq (y := (limbs (nval a * nval b))) (by rw [mulO_end (by omega) hO, nval_limbs, nval_limbs])) ?_
    exact QE.done (.inl rfl) rfl (ResOk.t rfl ResOk.nil) (OImp.sub (List.nil_sublist _)) ⟨rfl, rfl⟩

set_option maxRecDepth 20000 in
set_option maxHeartbeats 1000000 in
theorem c_nat_short (l : List Nat) (d : Nat) (hd : d ≠ 0) : Fn Try.prog 65 [kN.is l, kLimb.is d] (VP.tup [kN.is (limbs (nval l / d)), (kInt .u32).is ((nval l % d : Nat) : Int)]) := by
  refine Con.enter Try.func65 rfl rfl fun m w => ?_
  refine ST.fact (i := 0) rfl sl_len fun hB => ?_
  refine ST.fact (i := 0) rfl kN_lims fun hL => ?_
  refine ST.fact (i := 1) rfl limb_lt fun hdl => ?_
  refine ST.told (q := (kInt .u32).is (d : Int)) 1 rfl (limb_le _) ?_
  refine CW.seq ?_
  refine CW.region ?_
  refine WP.s .n (O.asg rfl) ?_
  refine WP.s .n (O.asg rfl) ?_
  refine WP.nil ?_
  refine QE.next ?_
  refine CW.seq ?_
  refine CW.region ?_
  refine WP.s .n (O.mv rfl) ?_
  refine WP.s .n (O.lenS rfl Try.underlying22) ?_
  refine WP.mk l.length .n rfl rfl rfl (by omega) Try.underlying22 el50_limb z50_limb fun v1 => ?_
  refine WP.s .n (O.asg rfl) ?_
  refine WP.nil ?_
  refine QE.next ?_
  refine CW.seq ?_
  refine CW.region ?_
  refine WP.s .n (O.asg rfl) ?_
  refine WP.nil ?_
  refine QE.next ?_
  refine CW.seq ?_
  refine CW.seq ?_
  refine CW.region ?_
  refine WP.s .n (O.mv rfl) ?_
  refine WP.s .n (O.lenS rfl Try.underlying22) ?_
  refine WP.s .n (O.sub rfl rfl (c := ((l.length : Int) - 1)) (w64 (by omega))) ?_
  refine WP.s .n (O.asg rfl) ?_
  refine WP.nil ?_
  refine QE.next ?_
  refine CW.block ?_
  refine CW.loop3 (fun (row : List Nat) (i : Nat) (r : Nat) => i ≤ l.length ∧ ShortR l row d i r) (fun (row : List Nat) (i : Nat) (r : Nat) => [(0, kN.is l), (1, (kInt .u32).is (d : Int)), (6, VP.ex v1), (7, (kInt .u64).is (r : Int)), (8, (kInt .i64).is ((i : Int) - 1))]) (fun (row : List Nat) (i : Nat) (r : Nat) => [OB.row v1 50 kLimb row]) (fun (row : List Nat) (i : Nat) (r : Nat) => i) (List.replicate l.length 0) l.length 0 ⟨Nat.le_refl _, shortR_0 hd⟩ (Imp.cons rfl (Imp.cons rfl (Imp.cons rfl (Imp.consLe rfl (is_eq (y := (0 : Int)) (by first | omega | rfl)) (Imp.consLe rfl (is_eq (y := ((l.length : Nat) : Int) - 1) (by first | omega | rfl)) Imp.nil))))) (OImp.refl _) ?_
  intro row i r ⟨hi, hS⟩
  have hrl := hS.2.1
  have hr := hS.2.2.1
  have hx := getD_lt hL (i - 1)
  have hq := short_q hr hx
  refine CW.seq ?_
  refine CW.seq ?_
  refine CW.region ?_
  refine WP.s .n (O.mv rfl) ?_
  refine WP.s .n (O.ge rfl rfl) ?_
  refine WP.nil ?_
  refine QE.next ?_
  refine CW.condD rfl (fun h_t16 => ?_) (fun h_t16 => ?_)
  · refine CW.skip ?_
    refine QE.next ?_
    refine CW.seq ?_
    refine CW.block ?_
    refine CW.seq ?_
    refine CW.region ?_
    refine WP.s .n (O.mv rfl) ?_
    refine WP.s .n (O.shl rfl rfl (by omega) (c := ((r * 2 ^ 32 : Nat) : Int)) (shlN 32 rfl rfl (by decide) (by omega))) ?_
    refine WP.s .n (O.mv rfl) ?_
    refine WP.s .n (O.mv rfl) ?_
    refine WP.s .n (O.ix (i - 1) rfl rfl Try.underlying22 ty50 (by omega) (v := (l.getD (i - 1) 0)) (gd 0 (by omega))) ?_
    refine WP.s .n (OpOk.le (O.ldP rfl ty50) (limb_le _)) ?_
    refine WP.s .n (O.cvt rfl Try.underlying50 Try.underlying62 (c := ((l.getD (i - 1) 0) : Int)) (wu64 (by omega))) ?_
    refine WP.s .n (O.or rfl rfl (c := ((r * 2 ^ 32 + l.getD (i - 1) 0 : Nat) : Int)) (orN 32 rfl rfl hx (by omega))) ?_
    refine WP.s .n (O.asg rfl) ?_
    refine WP.nil ?_
    refine QE.next ?_
    refine CW.seq ?_
    refine CW.region ?_
    refine WP.s .n (O.mv rfl) ?_
    refine WP.s .n (O.mv rfl) ?_
    refine WP.s .n (O.mv rfl) ?_
    refine WP.s .n (O.mv rfl) ?_
    refine WP.s .n (O.cvt rfl Try.underlying50 Try.underlying62 (c := (d : Int)) (wu64 (by omega))) ?_
    refine WP.s .n (O.quo rfl rfl (by omega) (c := (((r * 2 ^ 32 + l.getD (i - 1) 0) / d : Nat) : Int)) (quoN d rfl rfl (by omega))) ?_
    refine WP.s .n (O.cvt rfl Try.underlying62 Try.underlying50 (c := (((r * 2 ^ 32 + l.getD (i - 1) 0) / d : Nat) : Int)) (wrs32 ⟨rfl, short_q hr hx⟩)) ?_
    refine WP.s .n (O.ixR (k := kLimb) (xs := row) (n := (i : Int) - 1) (i - 1) rfl rfl (mem_at 0 rfl) Try.underlying22 ty50 (by omega) (by omega)) ?_
    refine WP.t .n (O.stR 0 (i - 1) rfl rfl (Lens.id _) rfl (y0 := (row.getD (i - 1) 0)) (gd 0 (by omega)) ty50 rfl (u32_limb (x := ((r * 2 ^ 32 + l.getD (i - 1) 0) / d : Nat)) (by omega))) ?_
    refine WP.nil ?_
    refine QE.next ?_
    refine CW.region ?_
    refine WP.s .n (O.mv rfl) ?_
    refine WP.s .n (O.mv rfl) ?_
    refine WP.s .n (O.cvt rfl Try.underlying50 Try.underlying62 (c := (d : Int)) (wu64 (by omega))) ?_
    refine WP.s .n (O.rem rfl rfl (by omega) (c := (((r * 2 ^ 32 + l.getD (i - 1) 0) % d : Nat) : Int)) (tmodN d rfl rfl)) ?_
    refine WP.s .n (O.asg rfl) ?_
    refine WP.nil ?_
    refine QE.blkN ?_
    refine QE.next ?_
    refine CW.region ?_
    refine WP.s .n (O.mv rfl) ?_
    refine WP.s .n (O.sub rfl rfl (c := (((i : Int) - 1) - 1)) (w64 (by omega))) ?_
    refine WP.s .n (O.asg rfl) ?_
    refine WP.nil ?_
    exact QE.round3 (row.set (i - 1) ((r * 2 ^ 32 + l.getD (i - 1) 0) / d)) (i - 1) ((r * 2 ^ 32 + l.getD (i - 1) 0) % d) (by omega) ⟨by omega, shortR_s hL hdl (by omega) (by omega) hS⟩ (Imp.cons rfl (Imp.cons rfl (Imp.cons rfl (Imp.consLe rfl (is_eq (y := ((((r * 2 ^ 32 + l.getD (i - 1) 0) % d) : Nat) : Int)) (by first | omega | rfl)) (Imp.consLe rfl (is_eq (y := (((i - 1) : Nat) : Int) - 1) (by first | omega | rfl)) Imp.nil))))) (OImp.os (OS.keepLe (OB.row_eq (by first | omega | rfl)) OS.nil))
  · refine CW.exit ?_
    refine QE.thenE ?_
    refine QE.thenE ?_
    refine QE.blkH ?_
    refine QE.next ?_
    refine CW.seq ?_
    refine CW.region ?_
    refine WP.s .n (O.mv rfl) ?_
    refine ST.freeze 0 rfl (.keep (i := 0) rfl (.keep (i := 1) rfl (.hit (i := 6) rfl (.keep (i := 7) rfl (.keep (i := 8) rfl (.keep (i := 15) rfl (.keep (i := 16) rfl (.hit (i := 39) rfl .nil)))))))) ?_
    refine WP.s .n (O.fn fn49 (evs.c rfl evs.nil) (c_nat_trim row)) ?_
    refine WP.s .n (O.mv rfl) ?_
    refine WP.s .n (O.cvt rfl Try.underlying62 Try.underlying50 (c := (r : Int)) (wrs32 (by omega))) ?_
    refine WP.s .n (O.asg rfl) ?_
    refine WP.s .n (O.asg rfl) ?_
    refine WP.nil ?_
    refine QE.next ?_
    refine CW.ret ?_
    refine ST.told 4 rfl (is_eq (y := (limbs (nval l / d))) (by rw [(shortR_end (by omega) hS).1])) ?_
    refine ST.told 5 rfl (is_eq (y := ((nval l % d : Nat) : Int)) (by rw [(shortR_end (by omega) hS).2])) ?_
    exact QE.done (.inl rfl) rfl (ResOk.t rfl (ResOk.t rfl ResOk.nil)) (OImp.sub (List.nil_sublist _)) ⟨rfl, rfl⟩

end Fw


/- Plain facts on limbs: shifts, digits of a quotient. -/
set_option linter.unusedVariables false
set_option linter.unusedSimpArgs false
set_option exponentiation.threshold 70
namespace Fw
open Go (IntKind)
/-- What a slice of limbs of the call's own tells. -/
theorem ST.rowfact {C : Ctx} {K : Go.Act → Go.World → Prop} {ρ : Env} {L : List OB} {v : Go.Value} {e : Go.TypeId} {l : List Nat} (j : Nat) (hj : L[j]? = some (OB.row v e kLimb l)) (h : l.length ≤ 1099511627776 → Lims l → ST C K ρ L) : ST C K ρ L := fun m w a s t => by
  obtain ⟨cells, h1, h2, h3⟩ := row_own s (List.mem_of_getElem? hj)
  exact h h3 (rows_lims h2) m w a s t
/-! ### A window -/
theorem win_get {l w r : List Nat} {o i : Nat} (ho : o ≤ l.length) (hi : i < w.length) : (l.take o ++ w ++ r)[o + i]? = some (w.getD i 0) := by
  rw [List.append_assoc, List.getElem?_append_right (by simp; omega), List.getElem?_append_left (by simp; omega)]
  simp only [List.length_take, Nat.min_eq_left ho, Nat.add_sub_cancel_left]
  exact gd 0 hi
theorem win_set {l w r : List Nat} {o i d : Nat} (ho : o ≤ l.length) (hi : i < w.length) : (l.take o ++ w ++ r).set (o + i) d = l.take o ++ w.set i d ++ r := by
  rw [List.append_assoc, List.set_append_right _ _ (by simp; omega), List.set_append_left _ _ (by simp; omega), List.append_assoc]
  simp only [List.length_take, Nat.min_eq_left ho, Nat.add_sub_cancel_left]
theorem win_len {l w : List Nat} {o n : Nat} (ho : o + n ≤ l.length) (hw : w.length = n) : (l.take o ++ w ++ l.drop (o + n)).length = l.length := by
  simp [hw]; omega
theorem win_self {l : List Nat} {o n : Nat} : l = l.take o ++ (l.drop o).take n ++ l.drop (o + n) := by
  rw [List.append_assoc, ← List.drop_drop, List.take_append_drop, List.take_append_drop]
theorem minN {a b : Nat} : min (a : Int) (b : Int) = ((min a b : Nat) : Int) := by omega
theorem dsub1 {x y : Nat} (hx : x < 4294967296) (hy : y < 4294967296) : IntKind.u64.wrap ((x : Int) - (y : Int)) = ((lessV 0 x y : Nat) : Int) := by
  unfold lessV
  simp [IntKind.wrap, IntKind.signed, IntKind.bits]
  split <;> omega
theorem dsub2 {c x y : Nat} (hc : c ≤ 1) (hx : x < 4294967296) (hy : y < 4294967296) : IntKind.u64.wrap (((lessV 0 x y : Nat) : Int) - (c : Int)) = ((lessV c x y : Nat) : Int) := by
  unfold lessV
  simp [IntKind.wrap, IntKind.signed, IntKind.bits]
  split <;> split <;> omega
theorem nval_take_set {w : List Nat} {i d : Nat} (h : i < w.length) : nval ((w.set i d).take (i + 1)) = nval (w.take i) + 4294967296 ^ i * d := by
  rw [nval_take_succ, List.take_set_of_le (Nat.le_refl _)]
  congr 2
  rw [List.getD_eq_getElem?_getD, List.getElem?_set_self h]; rfl
theorem drop_set_succ {w w0 : List Nat} {i d : Nat} (h : w.drop i = w0.drop i) : (w.set i d).drop (i + 1) = w0.drop (i + 1) := by
  rw [List.drop_set_of_lt (by omega), ← List.drop_drop, h, List.drop_drop]
theorem getD_drop_eq {w w0 : List Nat} {i : Nat} (h : w.drop i = w0.drop i) : w.getD i 0 = w0.getD i 0 := by
  have := congrArg (fun l => l.getD 0 0) h
  simpa [List.getD_eq_getElem?_getD] using this
/-- a digit taken off -/
def DigR (w0 vs : List Nat) (q : Nat) (w : List Nat) (i c b : Nat) : Prop := i ≤ vs.length + 1 ∧ w.length = vs.length + 1 ∧ Lims w ∧ c < 4294967296 ∧ b ≤ 1 ∧ (i ≤ vs.length ∨ c = 0) ∧ nval (w.take i) + q * nval (vs.take i) = nval (w0.take i) + 4294967296 ^ i * (c + b) ∧ w.drop i = w0.drop i
theorem digR_0 {w0 vs : List Nat} {q : Nat} (h : w0.length = vs.length + 1) (hl : Lims w0) : DigR w0 vs q w0 0 0 0 := ⟨by omega, h, hl, by omega, by omega, .inl (by omega), by simp [nval], rfl⟩
theorem dig_p {q c v : Nat} (hq : q < 4294967296) (hc : c < 4294967296) (hv : v < 4294967296) : (c + q * v) / 2 ^ 32 < 4294967296 ∧ c + q * v < 18446744073709551616 := by
  have := mul_bd hq hv
  omega
theorem digR_s {w0 vs w : List Nat} {q i c b : Nat} (lv : Lims vs) (hq : q < 4294967296) (hi : i < vs.length + 1) (h : DigR w0 vs q w i c b) :
    DigR w0 vs q (w.set i (lessV b (w.getD i 0) ((c + q * vs.getD i 0) % 4294967296) % 4294967296)) (i + 1) ((c + q * vs.getD i 0) / 2 ^ 32) (lessV b (w.getD i 0) ((c + q * vs.getD i 0) % 4294967296) / 2 ^ 63) := by
  obtain ⟨h1, h2, h3, h4, h5, h6, h7, h8⟩ := h
  have hv := getD_lt lv i
  have hx := getD_lt h3 i
  have hxx := getD_drop_eq h8
  obtain ⟨hp1, hp2⟩ := dig_p hq h4 hv
  have hlv : lessV b (w.getD i 0) ((c + q * vs.getD i 0) % 4294967296) % 4294967296 + (b + (c + q * vs.getD i 0) % 4294967296) = w.getD i 0 + 4294967296 * (lessV b (w.getD i 0) ((c + q * vs.getD i 0) % 4294967296) / 2 ^ 63) ∧ lessV b (w.getD i 0) ((c + q * vs.getD i 0) % 4294967296) / 2 ^ 63 ≤ 1 := by
    have : (c + q * vs.getD i 0) % 4294967296 < 4294967296 := Nat.mod_lt _ (by omega)
    generalize (c + q * vs.getD i 0) % 4294967296 = y at this ⊢
    unfold lessV; split <;> omega
  generalize lessV b (w.getD i 0) ((c + q * vs.getD i 0) % 4294967296) = V at hlv ⊢
  obtain ⟨hV1, hV2⟩ := hlv
  refine ⟨by omega, by simpa using h2, h3.set (by omega), hp1, hV2, ?_, ?_, drop_set_succ h8⟩
  · by_cases hin : i < vs.length
    · left; omega
    · right
      have : vs.getD i 0 = 0 := getD_out (by omega)
      rw [this, Nat.mul_zero, Nat.add_zero]
      rcases h6 with h6 | h6 <;> omega
  · rw [nval_take_set (by omega), nval_take_succ, nval_take_succ, Nat.pow_succ, Nat.mul_assoc]
    rw [← hxx]
    generalize hs : c + q * vs.getD i 0 = s at *
    have e1 : q * (nval (vs.take i) + 4294967296 ^ i * vs.getD i 0) = q * nval (vs.take i) + 4294967296 ^ i * (q * vs.getD i 0) := by
      rw [Nat.mul_add]; congr 1; rw [← Nat.mul_assoc, ← Nat.mul_assoc, Nat.mul_comm q]
    rw [e1]
    have e2 : V % 4294967296 + (q * vs.getD i 0) + (c + b) = w.getD i 0 + 4294967296 * (s / 2 ^ 32 + V / 2 ^ 63) := by
      have := Nat.div_add_mod s 4294967296
      omega
    have e3 := congrArg (4294967296 ^ i * ·) e2
    simp only [Nat.mul_add] at e3 h7 ⊢
    omega
theorem dig_top {w0 vs : List Nat} (lw : Lims w0) (hl : w0.length = vs.length + 1) (hn : 1 ≤ vs.length) (hv : vs.getD (vs.length - 1) 0 ≠ 0) (hU : nval w0 < nval vs * 4294967296) : nval w0 / nval vs ≤ min ((w0.getD vs.length 0 * 2 ^ 32 + w0.getD (vs.length - 1) 0) / vs.getD (vs.length - 1) 0) 4294967295 := by
  have hv1 := split_at (l := vs) (Nat.le_refl _) hn
  rw [List.drop_length, nval, Nat.mul_zero, Nat.add_zero] at hv1
  have hV : 4294967296 ^ (vs.length - 1) * vs.getD (vs.length - 1) 0 ≤ nval vs := by omega
  have hpos : 0 < 4294967296 ^ (vs.length - 1) := Nat.pow_pos (by omega)
  have hVp : 0 < nval vs := by
    have : 0 < 4294967296 ^ (vs.length - 1) * vs.getD (vs.length - 1) 0 := Nat.mul_pos hpos (by omega)
    omega
  have h1 : nval w0 / nval vs < 4294967296 := by
    rw [Nat.div_lt_iff_lt_mul hVp, Nat.mul_comm]; exact hU
  have h2 : nval w0 < 4294967296 ^ (vs.length - 1) * (w0.getD vs.length 0 * 2 ^ 32 + w0.getD (vs.length - 1) 0 + 1) := by
    have a1 := split_at (l := w0) (i := vs.length + 1) (by omega) (by omega)
    have a2 := split_at (l := w0.take vs.length) (i := vs.length) (by simp; omega) hn
    rw [Nat.add_sub_cancel, List.drop_of_length_le (by omega), nval, Nat.mul_zero, Nat.add_zero] at a1
    rw [List.drop_of_length_le (by simp; omega), nval, Nat.mul_zero, Nat.add_zero, List.take_take, Nat.min_eq_left (by omega), getD_take (by omega)] at a2
    have a3 := nval_lt (lw.take (vs.length - 1))
    rw [List.length_take, Nat.min_eq_left (by omega)] at a3
    have e : (4294967296 : Nat) ^ vs.length = 4294967296 ^ (vs.length - 1) * 4294967296 := by
      conv => lhs; rw [show vs.length = vs.length - 1 + 1 from by omega, Nat.pow_succ]
    rw [e, Nat.mul_assoc] at a1
    rw [Nat.mul_add, Nat.mul_add, Nat.mul_one, Nat.mul_comm _ (2 ^ 32), show (2 : Nat) ^ 32 = 4294967296 from rfl]
    generalize 4294967296 ^ (vs.length - 1) * (4294967296 * w0.getD vs.length 0) = u1 at a1 ⊢
    generalize 4294967296 ^ (vs.length - 1) * w0.getD (vs.length - 1) 0 = u2 at a2 ⊢
    omega
  refine Nat.le_min.2 ⟨?_, by omega⟩
  rw [Nat.le_div_iff_mul_le (by omega)]
  have h3 := Nat.div_mul_le_self (nval w0) (nval vs)
  have h4 : nval w0 / nval vs * (4294967296 ^ (vs.length - 1) * vs.getD (vs.length - 1) 0) ≤ nval w0 / nval vs * nval vs := Nat.mul_le_mul_left _ hV
  have h5 : 4294967296 ^ (vs.length - 1) * (nval w0 / nval vs * vs.getD (vs.length - 1) 0) < 4294967296 ^ (vs.length - 1) * (w0.getD vs.length 0 * 2 ^ 32 + w0.getD (vs.length - 1) 0 + 1) := by
    rw [Nat.mul_left_comm]
    omega
  have := Nat.lt_of_mul_lt_mul_left h5
  omega
/-- what is left, and the digit so far -/
def DigS (w0 vs w : List Nat) (q b : Nat) : Prop := w.length = vs.length + 1 ∧ Lims w ∧ b ≤ 1 ∧ q < 4294967296 ∧ nval w + q * nval vs = nval w0 + 4294967296 ^ (vs.length + 1) * b ∧ nval w0 / nval vs ≤ q
theorem digS_0 {w0 vs w : List Nat} {q i c b : Nat} (hi : i = vs.length + 1) (hl : w0.length = vs.length + 1) (hq : q < 4294967296) (hq2 : nval w0 / nval vs ≤ q) (h : DigR w0 vs q w i c b) : DigS w0 vs w q b := by
  obtain ⟨h1, h2, h3, h4, h5, h6, h7, h8⟩ := h
  subst hi
  rw [List.take_of_length_le (by omega), List.take_of_length_le (by omega), List.take_of_length_le (by omega)] at h7
  have : c = 0 := by rcases h6 with h6 | h6 <;> omega
  subst this
  rw [Nat.zero_add] at h7
  exact ⟨h2, h3, h5, hq, h7, hq2⟩
def DigA (w1 vs w : List Nat) (i c : Nat) : Prop := i ≤ vs.length + 1 ∧ w.length = vs.length + 1 ∧ Lims w ∧ c ≤ 1 ∧ nval (w.take i) + 4294967296 ^ i * c = nval (w1.take i) + nval (vs.take i) ∧ w.drop i = w1.drop i
theorem digA_0 {w0 vs w : List Nat} {q b : Nat} (h : DigS w0 vs w q b) : DigA w vs w 0 0 := ⟨by omega, h.1, h.2.1, by omega, by simp [nval], rfl⟩
theorem digA_s {w1 vs w : List Nat} {i c : Nat} (lv : Lims vs) (hi : i < vs.length + 1) (h : DigA w1 vs w i c) : DigA w1 vs (w.set i ((c + w.getD i 0 + vs.getD i 0) % 4294967296)) (i + 1) ((c + w.getD i 0 + vs.getD i 0) / 2 ^ 32) := by
  obtain ⟨h1, h2, h3, h4, h5, h6⟩ := h
  have hv := getD_lt lv i
  have hx := getD_lt h3 i
  have hxx := getD_drop_eq h6
  refine ⟨by omega, by simpa using h2, h3.set (by omega), by omega, ?_, drop_set_succ h6⟩
  rw [nval_take_set (by omega), nval_take_succ, nval_take_succ, Nat.pow_succ, Nat.mul_assoc, ← hxx]
  generalize hs : c + w.getD i 0 + vs.getD i 0 = s
  have e2 : s % 4294967296 + 4294967296 * (s / 2 ^ 32) = c + w.getD i 0 + vs.getD i 0 := by
    have := Nat.div_add_mod s 4294967296
    omega
  have e3 := congrArg (4294967296 ^ i * ·) e2
  simp only [Nat.mul_add] at e3
  omega
theorem dig_core {W W1 V U q P c : Nat} (h5 : W + P * c = W1 + V) (s5 : W1 + q * V = U + P) (hw : W1 < P) (hc : c ≤ 1) : W + (q - 1) * V = U + P * (1 - c) ∧ U / V < q := by
  have hqv : U < q * V := by omega
  have hVp : 0 < V := by
    rcases Nat.eq_zero_or_pos V with h | h
    · rw [h, Nat.mul_zero] at hqv; omega
    · exact h
  have hlt : U / V < q := (Nat.div_lt_iff_lt_mul hVp).2 hqv
  refine ⟨?_, hlt⟩
  have hq0 := Nat.zero_lt_of_lt hlt
  clear hlt
  obtain ⟨k, rfl⟩ : ∃ k, q = k + 1 := ⟨q - 1, by omega⟩
  rw [Nat.succ_mul] at s5
  rw [Nat.add_sub_cancel]
  have : c = 0 ∨ c = 1 := by omega
  rcases this with rfl | rfl
  · rw [Nat.mul_zero] at h5; rw [Nat.sub_zero, Nat.mul_one]; omega
  · rw [Nat.mul_one] at h5; rw [Nat.sub_self, Nat.mul_zero]; omega
theorem digA_end {w0 w1 vs w : List Nat} {q b i c : Nat} (hi : i = vs.length + 1) (hb : 0 < b) (hs : DigS w0 vs w1 q b) (h : DigA w1 vs w i c) : DigS w0 vs w (q - 1) (b - c) ∧ 1 ≤ q := by
  obtain ⟨h1, h2, h3, h4, h5, h6⟩ := h
  obtain ⟨s1, s2, s3, s4, s5, s6⟩ := hs
  subst hi
  rw [List.take_of_length_le (Nat.le_of_eq h2), List.take_of_length_le (Nat.le_of_eq s1), List.take_of_length_le (Nat.le_succ _)] at h5
  have hb1 : b = 1 := Nat.le_antisymm s3 hb
  subst hb1
  have hw := nval_lt s2
  rw [s1] at hw
  rw [Nat.mul_one] at s5
  obtain ⟨k1, k2⟩ := dig_core h5 s5 hw h4
  exact ⟨⟨h2, h3, Nat.sub_le _ _, Nat.lt_of_le_of_lt (Nat.sub_le _ _) s4, k1, Nat.le_sub_one_of_lt k2⟩, Nat.one_le_of_lt k2⟩
theorem digS_end {w0 vs w : List Nat} {q b : Nat} (hb : b = 0) (h : DigS w0 vs w q b) (hV : nval vs ≠ 0) : q = nval w0 / nval vs ∧ w.length = vs.length + 1 ∧ Lims w ∧ nval w = nval w0 % nval vs := by
  obtain ⟨s1, s2, s3, s4, s5, s6⟩ := h
  subst hb
  rw [Nat.mul_zero, Nat.add_zero] at s5
  have h1 : q ≤ nval w0 / nval vs := by
    rw [Nat.le_div_iff_mul_le (by omega)]; omega
  have h2 : q = nval w0 / nval vs := by omega
  refine ⟨h2, s1, s2, ?_⟩
  have := Nat.div_add_mod (nval w0) (nval vs)
  rw [← h2, Nat.mul_comm] at this
  omega
theorem top_ne {vs : List Nat} (hv : vs.getD (vs.length - 1) 0 ≠ 0) (hn : 1 ≤ vs.length) : nval vs ≠ 0 := by
  have hv1 := split_at (l := vs) (Nat.le_refl _) hn
  rw [List.drop_length, nval, Nat.mul_zero, Nat.add_zero] at hv1
  have : 0 < 4294967296 ^ (vs.length - 1) * vs.getD (vs.length - 1) 0 := Nat.mul_pos (Nat.pow_pos (by omega)) (by omega)
  omega
theorem min_lt32 {a : Nat} : min a 4294967295 < 4294967296 := by omega
theorem offs1 {o i : Nat} : o + i * 1 = (o + i) * 1 + 0 := by omega
theorem digS_pos {w0 vs w : List Nat} {q b : Nat} (hs : DigS w0 vs w q b) (hb : 0 < b) : 1 ≤ q := by
  obtain ⟨s1, s2, s3, s4, s5, s6⟩ := hs
  have hb1 : b = 1 := Nat.le_antisymm s3 hb
  subst hb1
  have hw := nval_lt s2
  rw [s1] at hw
  rw [Nat.mul_one] at s5
  generalize 4294967296 ^ (vs.length + 1) = P at s5 hw
  rcases Nat.eq_zero_or_pos q with h | h
  · subst h; rw [Nat.zero_mul] at s5; omega
  · exact h
end Fw


/- Plain facts on limbs: shifts by less than a limb; a long quotient. -/
set_option linter.unusedVariables false
set_option linter.unusedSimpArgs false
set_option exponentiation.threshold 70
namespace Fw
open Go (IntKind)
theorem quo32 {n : Nat} (h : n < 32) : IntKind.i64.wrap ((n : Int).tdiv 32) = 0 := by
  have : (n : Int).tdiv 32 = ((n / 32 : Nat) : Int) := rfl
  rw [this, Nat.div_eq_of_lt h]; rfl
theorem rem32 {n : Nat} (h : n < 32) : (n : Int).tmod 32 = (n : Int) := by
  have : (n : Int).tmod 32 = ((n % 32 : Nat) : Int) := rfl
  rw [this, Nat.mod_eq_of_lt h]
theorem orN32 (j : Nat) {a b : Int} {s t : Nat} (ha : a = t) (hb : b = ((s * 2 ^ j : Nat) : Int)) (ht : t < 2 ^ j) (hs : s * 2 ^ j + t < 4294967296) : IntKind.u32.wrap ((BitVec.ofInt IntKind.u32.bits a ||| BitVec.ofInt IntKind.u32.bits b).toNat) = ((s * 2 ^ j + t : Nat) : Int) := by
  subst ha hb
  have h1 : (BitVec.ofInt IntKind.u32.bits ((s * 2 ^ j : Nat) : Int)).toNat = s * 2 ^ j := by
    rw [BitVec.ofInt_natCast, BitVec.toNat_ofNat]
    exact Nat.mod_eq_of_lt (Nat.lt_of_le_of_lt (Nat.le_add_right _ t) hs)
  have h2 : (BitVec.ofInt IntKind.u32.bits (t : Int)).toNat = t := by
    rw [BitVec.ofInt_natCast, BitVec.toNat_ofNat]
    exact Nat.mod_eq_of_lt (Nat.lt_of_le_of_lt (Nat.le_add_left t _) hs)
  rw [BitVec.toNat_or, h1, h2, Nat.or_comm, Nat.mul_comm s, ← Nat.two_pow_add_eq_or_of_lt ht, Nat.mul_comm, wr32 rfl, Nat.mod_eq_of_lt hs]
theorem pow32 {n : Nat} (h : n < 32) : 1 ≤ 2 ^ n ∧ 2 ^ n ≤ 2147483648 ∧ 2 ^ n * 2 ^ (32 - n) = 4294967296 := by
  refine ⟨Nat.two_pow_pos n, ?_, ?_⟩
  · exact Nat.pow_le_pow_right (n := 2) (by decide) (Nat.le_of_lt_succ h : n ≤ 31)
  · rw [← Nat.pow_add, Nat.add_sub_cancel' (Nat.le_of_lt h)]
theorem shl_lo {x n : Nat} (h : n < 32) : x * 2 ^ n % 4294967296 = x % 2 ^ (32 - n) * 2 ^ n := by
  rw [← (pow32 h).2.2, Nat.mul_comm (2 ^ n), Nat.mul_mod_mul_right]
theorem shl_hi {x n : Nat} (h : n < 32) (hx : x < 4294967296) : x * 2 ^ n / 2 ^ 32 < 2 ^ n ∧ x * 2 ^ n < 18446744073709551616 := by
  obtain ⟨h1, h2, h3⟩ := pow32 h
  constructor
  · rw [Nat.div_lt_iff_lt_mul (by decide), Nat.mul_comm]
    exact Nat.mul_lt_mul_of_pos_left hx h1
  · have : x * 2 ^ n ≤ 4294967295 * 2147483648 := Nat.mul_le_mul (Nat.le_of_lt_succ hx) h2
    exact Nat.lt_of_le_of_lt this (by decide)
theorem shl_or {x n t : Nat} (h : n < 32) (ht : t < 2 ^ n) : x % 2 ^ (32 - n) * 2 ^ n + t < 4294967296 := by
  obtain ⟨h1, h2, h3⟩ := pow32 h
  have h4 : x % 2 ^ (32 - n) + 1 ≤ 2 ^ (32 - n) := Nat.mod_lt _ (Nat.two_pow_pos _)
  have h5 := Nat.mul_le_mul_right (2 ^ n) h4
  rw [Nat.succ_mul, Nat.mul_comm (2 ^ (32 - n)), h3] at h5
  omega
def ShlR (l row : List Nat) (n i : Nat) : Prop := i ≤ l.length ∧ row.length = l.length + 1 ∧ Lims row ∧ row.getD i 0 < 2 ^ n ∧ nval (row.take (i + 1)) = nval (l.take i) * 2 ^ n
theorem shlR_0 (l : List Nat) (n : Nat) : ShlR l (List.replicate (l.length + 1) 0) n 0 := by
  refine ⟨by omega, by simp, fun x hx => ?_, ?_, ?_⟩
  · have := (List.mem_replicate.1 hx).2; omega
  · rw [List.getD_eq_getElem?_getD, List.getElem?_replicate]
    have := Nat.two_pow_pos n
    split <;> simpa using this
  · rw [List.take_replicate, nval_replicate0]; simp [nval]
theorem shlR_s {l row : List Nat} {n i : Nat} (lL : Lims l) (hn : n < 32) (hi : i < l.length) (h : ShlR l row n i) :
    ShlR l ((row.set i (l.getD i 0 % 2 ^ (32 - n) * 2 ^ n + row.getD i 0)).set (i + 1) (l.getD i 0 * 2 ^ n / 2 ^ 32)) n (i + 1) := by
  obtain ⟨h1, h2, h3, h4, h5⟩ := h
  have hx := getD_lt lL i
  obtain ⟨k1, k2⟩ := shl_hi hn hx
  have k3 := shl_or (x := l.getD i 0) hn h4
  have k4 : l.getD i 0 * 2 ^ n / 2 ^ 32 < 4294967296 := Nat.lt_of_lt_of_le k1 (Nat.le_trans (pow32 hn).2.1 (by decide))
  refine ⟨by omega, by simpa using h2, (h3.set k3).set k4, ?_, ?_⟩
  · rw [List.getD_eq_getElem?_getD, List.getElem?_set_self (by simp; omega)]; exact k1
  · rw [nval_take_set (by simp; omega), nval_take_set (by omega), nval_take_succ, Nat.add_mul, ← h5, nval_take_succ, ← shl_lo hn, Nat.pow_succ]
    rw [Nat.mul_assoc _ (l.getD i 0), Nat.mul_assoc (4294967296 ^ i) 4294967296]
    generalize l.getD i 0 * 2 ^ n = s
    have e2 : s % 4294967296 + 4294967296 * (s / 2 ^ 32) = s := by
      have := Nat.div_add_mod s 4294967296
      omega
    have e3 := congrArg (4294967296 ^ i * ·) e2
    simp only [Nat.mul_add] at e3 ⊢
    omega
theorem shlR_end {l row : List Nat} {n i : Nat} (hi : i = l.length) (h : ShlR l row n i) : nval row = nval l * 2 ^ n := by
  obtain ⟨h1, h2, h3, h4, h5⟩ := h
  subst hi
  rwa [List.take_length, List.take_of_length_le (Nat.le_of_eq h2)] at h5
/-! ### shr -/
def ShrR (l r : List Nat) (n : Nat) : Prop := r.length ≤ l.length ∧ Lims r ∧ nval r = (nval l / 2 ^ n) % 4294967296 ^ r.length
theorem shrR_0 (l : List Nat) (n : Nat) : ShrR l [] n := ⟨by simp, fun x h => (by cases h), by simp [nval, Nat.mod_one]⟩
theorem limb_at (l : List Nat) (hl : Lims l) (i : Nat) : l.getD i 0 = nval l / 4294967296 ^ i % 4294967296 := by
  have h1 := nval_split l i
  rw [nval_drop] at h1
  have h2 := nval_lt' hl i
  have h3 := getD_lt hl i
  have hp : 0 < 4294967296 ^ i := Nat.pow_pos (by decide)
  rw [h1, Nat.add_mul_div_left _ _ hp, Nat.div_eq_of_lt h2, Nat.zero_add, Nat.add_mul_mod_self_left, Nat.mod_eq_of_lt h3]
theorem two_limbs (l : List Nat) (hl : Lims l) (i : Nat) : l.getD (i + 1) 0 * 2 ^ 32 + l.getD i 0 = nval l / 4294967296 ^ i % 18446744073709551616 := by
  rw [limb_at l hl i, limb_at l hl (i + 1), Nat.pow_succ, ← Nat.div_div_eq_div_mul]
  generalize nval l / 4294967296 ^ i = z
  omega
theorem shr_dig {z n : Nat} (hn : n < 32) : z % 18446744073709551616 / 2 ^ n % 4294967296 = z / 2 ^ n % 4294967296 := by
  obtain ⟨h1, h2, h3⟩ := pow32 hn
  have e : 18446744073709551616 = 2 ^ n * (2 ^ (32 - n) * 4294967296) := by
    rw [← Nat.mul_assoc, h3]
  rw [e, Nat.mod_mul_right_div_self, Nat.mul_comm (2 ^ (32 - n)), Nat.mod_mul_right_mod]
theorem shrR_s {l r : List Nat} {n : Nat} (lL : Lims l) (hn : n < 32) (hi : r.length < l.length) (h : ShrR l r n) :
    ShrR l (r ++ [(l.getD (r.length + 1) 0 * 2 ^ 32 + l.getD r.length 0) / 2 ^ n % 4294967296]) n := by
  obtain ⟨h1, h2, h3⟩ := h
  refine ⟨by simp; omega, h2.concat (Nat.mod_lt _ (by decide)), ?_⟩
  rw [nval_concat, two_limbs l lL, shr_dig hn, h3, List.length_append, List.length_singleton, Nat.div_div_eq_div_mul, Nat.mul_comm (4294967296 ^ r.length) (2 ^ n), ← Nat.div_div_eq_div_mul, Nat.pow_succ, Nat.mod_mul]
theorem shrR_end {l r : List Nat} {n : Nat} (lL : Lims l) (hr : r.length = l.length) (h : ShrR l r n) : nval r = nval l / 2 ^ n := by
  obtain ⟨h1, h2, h3⟩ := h
  rw [h3, hr, Nat.mod_eq_of_lt]
  exact Nat.lt_of_le_of_lt (Nat.div_le_self _ _) (nval_lt lL)
theorem orN' (j : Nat) {a b : Int} {s t : Nat} (ha : a = t) (hb : b = ((s * 2 ^ j : Nat) : Int)) (ht : t < 2 ^ j) (hs : s * 2 ^ j + t < 18446744073709551616) : IntKind.u64.wrap ((BitVec.ofInt IntKind.u64.bits a ||| BitVec.ofInt IntKind.u64.bits b).toNat) = ((s * 2 ^ j + t : Nat) : Int) := by
  rw [BitVec.or_comm]
  exact orN j hb ha ht hs
end Fw


/- What shl, shr, digit and Div of layer 1 answer. -/
set_option linter.unusedVariables false
set_option linter.unusedSimpArgs false
set_option exponentiation.threshold 70
namespace Fw
open Go Go.Proofs

set_option maxRecDepth 20000 in
set_option maxHeartbeats 1000000 in
theorem c_trimO (v : Value) (l : List Nat) : Con Try.prog 49 [VP.ex v] [OB.row v 50 kLimb l] (fun p Lo => ∃ (u : Value), p = VP.ex u ∧ Lo = [OB.row u 50 kLimb (limbs (nval l))] ∧ True) := by
  refine Con.enter Try.func49 rfl rfl fun m w => ?_
  refine CW.seq ?_
  refine ST.rowfact 0 rfl fun hB hL => ?_
  refine CW.region ?_
  refine WP.s .n (O.asg rfl) ?_
  refine WP.nil ?_
  refine QE.next ?_
  refine CW.seq ?_
  refine CW.block ?_
  refine ST.obtold 0 rfl (OB.row_eq (ys := (l.take l.length)) (by rw [List.take_length])) ?_
  refine CW.loop2 (fun (i : Nat) (u : Value) => i ≤ l.length ∧ nval (l.take i) = nval l) (fun (i : Nat) (u : Value) => [(0, VP.ex u)]) (fun (i : Nat) (u : Value) => [OB.row u 50 kLimb (l.take i)]) (fun (i : Nat) (u : Value) => i) l.length v ⟨Nat.le_refl _, by rw [List.take_length]⟩ (Imp.cons rfl Imp.nil) (OImp.refl _) ?_
  intro i u ⟨hi, hr⟩
  have hlen : (l.take i).length = i := by simp; omega
  refine CW.seq ?_
  refine CW.seq ?_
  refine CW.region ?_
  refine WP.s .n (O.mv rfl) ?_
  refine WP.s .n (O.lenR rfl (mem_at 0 rfl) Try.underlying22) ?_
  refine WP.s .n (O.gt rfl rfl) ?_
  refine WP.s .n (O.mv rfl) ?_
  refine WP.splitD 6 rfl (fun h_t6 => ?_) (fun h_t6 => ?_)
  · have h_t6' : 0 < i := by omega
    refine WP.s (.g rfl rfl) (O.mv rfl) ?_
    refine WP.s (.g rfl rfl) (O.mv rfl) ?_
    refine WP.s (.g rfl rfl) (O.lenR rfl (mem_at 0 rfl) Try.underlying22) ?_
    refine WP.s (.g rfl rfl) (O.sub rfl rfl (c := (((l.take i).length : Int) - 1)) (w64 (by omega))) ?_
    refine WP.s (.g rfl rfl) (O.ixR (k := kLimb) (xs := (l.take i)) (n := (((l.take i).length : Int) - 1)) (i - 1) rfl rfl (mem_at 0 rfl) Try.underlying22 ty50 (by omega) (by omega)) ?_
    refine WP.s (.g rfl rfl) (OpOk.le (O.ldR (i - 1) rfl (mem_at 0 rfl) (Lens.id _) rfl (y := ((l.take i).getD (i - 1) 0)) (gd 0 (by omega)) ty50 rfl) (limb_le _)) ?_
    refine WP.s (.g rfl rfl) (O.eq rfl rfl) ?_
    refine WP.s .n (O.pickT rfl rfl) ?_
    refine WP.nil ?_
    refine QE.next ?_
    refine CW.condD rfl (fun h_t14 => ?_) (fun h_t14 => ?_)
    · refine CW.skip ?_
      refine QE.next ?_
      refine CW.block ?_
      refine CW.region ?_
      refine WP.s .n (O.mv rfl) ?_
      refine WP.s .n (O.mv rfl) ?_
      refine WP.s .n (O.lenR rfl (mem_at 0 rfl) Try.underlying22) ?_
      refine WP.s .n (O.sub rfl rfl (c := (((l.take i).length : Int) - 1)) (w64 (by omega))) ?_
      refine WP.slR 0 (i - 1) .n rfl rfl rfl Try.underlying22 ty50 (by omega) (by omega) fun v1 => ?_
      refine WP.s .n (O.asg rfl) ?_
      refine WP.nil ?_
      refine QE.blkN ?_
      refine ST.obtold 0 rfl (OB.row_eq (ys := (l.take (i - 1))) (take_take1 hi)) ?_
      exact QE.round2 (i - 1) v1 (by omega) ⟨by omega, (trim_down hi h_t6' h_t14).trans hr⟩ (Imp.cons rfl Imp.nil) (OImp.refl _)
    · refine CW.exit ?_
      refine QE.thenE ?_
      refine QE.thenE ?_
      refine QE.blkH ?_
      refine QE.next ?_
      refine CW.seq ?_
      refine CW.region ?_
      refine WP.s .n (O.mv rfl) ?_
      refine WP.s .n (O.asg rfl) ?_
      refine WP.nil ?_
      refine QE.next ?_
      refine CW.ret ?_
      refine ST.obtold 0 rfl (OB.row_eq (ys := (limbs (nval l))) (trim_stop hL hi h_t6' h_t14 hr)) ?_
      exact QE.done (.inl rfl) rfl (ResOk.t rfl ResOk.nil) (OImp.refl _) ⟨u, rfl, rfl, trivial⟩
  · refine WP.k (b := false) rfl rfl ?_
    refine WP.k (b := false) rfl rfl ?_
    refine WP.k (b := false) rfl rfl ?_
    refine WP.k (b := false) rfl rfl ?_
    refine WP.k (b := false) rfl rfl ?_
    refine WP.k (b := false) rfl rfl ?_
    refine WP.k (b := false) rfl rfl ?_
    refine WP.s .n (O.pickF rfl rfl) ?_
    refine WP.nil ?_
    refine QE.next ?_
    refine CW.condF rfl ?_
    refine CW.exit ?_
    refine QE.thenE ?_
    refine QE.thenE ?_
    refine QE.blkH ?_
    refine QE.next ?_
    refine CW.seq ?_
    refine CW.region ?_
    refine WP.s .n (O.mv rfl) ?_
    refine WP.s .n (O.asg rfl) ?_
    refine WP.nil ?_
    refine QE.next ?_
    refine CW.ret ?_
    refine ST.obtold 0 rfl (OB.row_eq (ys := (limbs (nval l))) (trim_stop0 hr (by omega))) ?_
    exact QE.done (.inl rfl) rfl (ResOk.t rfl ResOk.nil) (OImp.refl _) ⟨u, rfl, rfl, trivial⟩

set_option maxRecDepth 20000 in
set_option maxHeartbeats 1000000 in
theorem c_nat_digit (v : Value) (l vs : List Nat) (o : Nat) (ho : o + (vs.length + 1) ≤ l.length) (hn : 1 ≤ vs.length) (hv : vs.getD (vs.length - 1) 0 ≠ 0) (hU : nval ((l.drop o).take (vs.length + 1)) < nval vs * 4294967296) : Con Try.prog 68 [VP.win v o (vs.length + 1), kN.is vs] [OB.row v 50 kLimb l] (fun p Lo => ∃ (w : List Nat), p = (kInt .u32).is ((nval ((l.drop o).take (vs.length + 1)) / nval vs : Nat) : Int) ∧ Lo = [OB.row v 50 kLimb (l.take o ++ w ++ l.drop (o + (vs.length + 1)))] ∧ w.length = vs.length + 1 ∧ Lims w ∧ nval w = nval ((l.drop o).take (vs.length + 1)) % nval vs) := by
  refine Con.enter Try.func68 rfl rfl fun m w => ?_
  refine ST.rowfact 0 rfl fun hB hL => ?_
  refine ST.fact (i := 1) rfl kN_lims fun lv => ?_
  refine ST.fact (i := 1) rfl sl_len fun hBv => ?_
  obtain ⟨w0, hw0⟩ : ∃ w0, w0 = (l.drop o).take (vs.length + 1) := ⟨_, rfl⟩
  have lw0 : Lims w0 := by rw [hw0]; exact (hL.drop _).take _
  have hw0l : w0.length = vs.length + 1 := by rw [hw0]; simp; omega
  have hU0 : nval w0 < nval vs * 4294967296 := by rw [hw0]; exact hU
  have hol : o ≤ l.length := by omega
  refine ST.obtold 0 rfl (OB.row_eq (ys := (l.take o ++ w0 ++ l.drop (o + (vs.length + 1)))) (by rw [hw0]; exact win_self)) ?_
  have hx1 := getD_lt lw0 vs.length
  have hx2 := getD_lt lw0 (vs.length - 1)
  have hx3 := getD_lt lv (vs.length - 1)
  have hrl := win_len (o := o) ho hw0l
  refine CW.seq ?_
  refine CW.region ?_
  refine WP.s .n (O.asg rfl) ?_
  refine WP.nil ?_
  refine QE.next ?_
  refine CW.seq ?_
  refine CW.region ?_
  refine WP.s .n (O.mv rfl) ?_
  refine WP.s .n (O.lenS rfl Try.underlying22) ?_
  refine WP.s .n (O.asg rfl) ?_
  refine WP.nil ?_
  refine QE.next ?_
  refine CW.seq ?_
  refine CW.draw (Γ := [.fr (VP.win v o (vs.length + 1)), .fr ((kInt .i64).is (vs.length : Int)), .fr (VP.pel v (o + vs.length * 1)), .fr ((kInt .u32).is ((w0.getD vs.length 0) : Int)), .fr ((kInt .u64).is ((w0.getD vs.length 0) : Int)), .fr ((kInt .u64).is ((w0.getD vs.length 0 * 2 ^ 32 : Nat) : Int)), .fr (VP.win v o (vs.length + 1)), .fr ((kInt .i64).is (vs.length : Int)), .fr ((kInt .i64).is ((vs.length : Int) - 1)), .fr (VP.pel v (o + (vs.length - 1) * 1)), .fr ((kInt .u32).is ((w0.getD (vs.length - 1) 0) : Int)), .fr ((kInt .u64).is ((w0.getD (vs.length - 1) 0) : Int)), .fr ((kInt .u64).is ((w0.getD vs.length 0 * 2 ^ 32 + w0.getD (vs.length - 1) 0 : Nat) : Int))]) (lates := [false, false, false, false, false, false, false, false, false, false, false, false, false]) (by kernel_rfl) (Chk.of rfl (by kernel_rfl) rfl) (fun _ _ _ _ _ h => h) (fun q_ x_ h_ => ?_) (fun σ => ?_)
  · match q_, h_ with
    | 0, h_ => cases h_; exact Ob.f rfl .n fun N => (O.mv rfl)
    | 1, h_ => cases h_; exact Ob.f rfl .n fun N => (O.mv rfl)
    | 2, h_ => cases h_; exact Ob.f rfl .n fun N => (O.ixW (sz := 1) vs.length rfl rfl Try.underlying22 ty50 rfl (by omega))
    | 3, h_ => cases h_; exact Ob.f rfl .n fun N => (OpOk.le (O.ldR (k := kLimb) (xs := (l.take o ++ w0 ++ l.drop (o + (vs.length + 1)))) (o + vs.length) rfl (mem_app N (mem_at 0 rfl)) (Lens.id _) (ho := offs1) (y := (w0.getD vs.length 0)) (win_get hol (by omega)) ty50 rfl) (limb_le _))
    | 4, h_ => cases h_; exact Ob.f rfl .n fun N => (O.cvt rfl Try.underlying50 Try.underlying62 (c := ((w0.getD vs.length 0) : Int)) (wu64 (by omega)))
    | 5, h_ => cases h_; exact Ob.f rfl .n fun N => (O.shl rfl rfl (by omega) (c := ((w0.getD vs.length 0 * 2 ^ 32 : Nat) : Int)) (shlN 32 rfl rfl (by decide) (by omega)))
    | 6, h_ => cases h_; exact Ob.f rfl .n fun N => (O.mv rfl)
    | 7, h_ => cases h_; exact Ob.f rfl .n fun N => (O.mv rfl)
    | 8, h_ => cases h_; exact Ob.f rfl .n fun N => (O.sub rfl rfl (c := ((vs.length : Int) - 1)) (w64 (by omega)))
    | 9, h_ => cases h_; exact Ob.f rfl .n fun N => (O.ixW (sz := 1) (vs.length - 1) rfl rfl Try.underlying22 ty50 (by omega) (by omega))
    | 10, h_ => cases h_; exact Ob.f rfl .n fun N => (OpOk.le (O.ldR (k := kLimb) (xs := (l.take o ++ w0 ++ l.drop (o + (vs.length + 1)))) (o + (vs.length - 1)) rfl (mem_app N (mem_at 0 rfl)) (Lens.id _) (ho := offs1) (y := (w0.getD (vs.length - 1) 0)) (win_get hol (by omega)) ty50 rfl) (limb_le _))
    | 11, h_ => cases h_; exact Ob.f rfl .n fun N => (O.cvt rfl Try.underlying50 Try.underlying62 (c := ((w0.getD (vs.length - 1) 0) : Int)) (wu64 (by omega)))
    | 12, h_ => cases h_; exact Ob.f rfl .n fun N => (O.or rfl rfl (c := ((w0.getD vs.length 0 * 2 ^ 32 + w0.getD (vs.length - 1) 0 : Nat) : Int)) (orN 32 rfl rfl hx2 (by omega)))
    | n_ + 13, h_ => simp at h_
  refine WP.s .n (O.asg rfl) ?_
  refine WP.nil ?_
  refine QE.next ?_
  refine CW.seq ?_
  refine CW.region ?_
  refine WP.s .n (O.mv rfl) ?_
  refine WP.s .n (O.mv rfl) ?_
  refine WP.s .n (O.mv rfl) ?_
  refine WP.s .n (O.sub rfl rfl (c := ((vs.length : Int) - 1)) (w64 (by omega))) ?_
  refine WP.s .n (O.ix (vs.length - 1) rfl rfl Try.underlying22 ty50 (by omega) (v := (vs.getD (vs.length - 1) 0)) (gd 0 (by omega))) ?_
  refine WP.s .n (OpOk.le (O.ldP rfl ty50) (limb_le _)) ?_
  refine WP.s .n (O.cvt rfl Try.underlying50 Try.underlying62 (c := ((vs.getD (vs.length - 1) 0) : Int)) (wu64 (by omega))) ?_
  refine WP.s .n (O.quo rfl rfl (by omega) (c := (((w0.getD vs.length 0 * 2 ^ 32 + w0.getD (vs.length - 1) 0) / vs.getD (vs.length - 1) 0 : Nat) : Int)) (quoN (vs.getD (vs.length - 1) 0) rfl rfl (by omega))) ?_
  refine WP.s .n (O.mn rfl rfl) ?_
  refine WP.s .n (O.asg rfl) ?_
  refine WP.nil ?_
  refine QE.next ?_
  refine CW.seq ?_
  obtain ⟨q, hqd⟩ : ∃ q, q = min ((w0.getD vs.length 0 * 2 ^ 32 + w0.getD (vs.length - 1) 0) / vs.getD (vs.length - 1) 0) 4294967295 := ⟨_, rfl⟩
  have hq : q < 4294967296 := by rw [hqd]; exact min_lt32
  have hq2 : nval w0 / nval vs ≤ q := by rw [hqd]; exact dig_top lw0 hw0l hn hv hU0
  refine ST.told 7 rfl (is_eq (y := (q : Int)) (by rw [hqd]; exact minN)) ?_
  refine CW.region ?_
  refine WP.s .n (O.asg rfl) ?_
  refine WP.s .n (O.asg rfl) ?_
  refine WP.nil ?_
  refine QE.next ?_
  refine CW.seq ?_
  refine CW.seq ?_
  refine CW.region ?_
  refine WP.s .n (O.mv rfl) ?_
  refine WP.s .n (O.add rfl rfl (c := ((vs.length : Int) + 1)) (w64 (by omega))) ?_
  refine WP.s .n (O.mv rfl) ?_
  refine WP.nil ?_
  refine QE.next ?_
  refine CW.block ?_
  refine CW.loop4 (fun (w : List Nat) (i : Nat) (c : Nat) (b : Nat) => DigR w0 vs q w i c b) (fun (w : List Nat) (i : Nat) (c : Nat) (b : Nat) => [(0, VP.win v o (vs.length + 1)), (1, kN.is vs), (5, (kInt .i64).is (vs.length : Int)), (7, (kInt .u64).is (q : Int)), (8, (kInt .u64).is (c : Int)), (9, (kInt .u64).is (b : Int)), (40, (kInt .i64).is ((vs.length : Int) + 1)), (41, (kInt .i64).is (i : Int))]) (fun (w : List Nat) (i : Nat) (c : Nat) (b : Nat) => [OB.row v 50 kLimb (l.take o ++ w ++ l.drop (o + (vs.length + 1)))]) (fun (w : List Nat) (i : Nat) (c : Nat) (b : Nat) => vs.length + 1 - i) w0 0 0 0 (digR_0 hw0l lw0) (Imp.cons rfl (Imp.cons rfl (Imp.cons rfl (Imp.cons rfl (Imp.consLe rfl (is_eq (y := (0 : Int)) (by first | omega | rfl)) (Imp.consLe rfl (is_eq (y := (0 : Int)) (by first | omega | rfl)) (Imp.cons rfl (Imp.consLe rfl (is_eq (y := (0 : Int)) (by first | omega | rfl)) Imp.nil)))))))) (OImp.refl _) ?_
  intro w i c b hD
  have hwl := hD.2.1
  have hx := getD_lt hD.2.2.1 i
  have hc := hD.2.2.2.1
  have hb := hD.2.2.2.2.1
  have hy := getD_lt lv i
  have hqy := mul_bd hq hy
  have hpm : (c + q * vs.getD i 0) % 4294967296 < 4294967296 := Nat.mod_lt _ (by omega)
  have hrl := win_len (o := o) ho hwl
  have hi := hD.1
  refine CW.seq ?_
  refine CW.region ?_
  refine WP.s .n (O.lt rfl rfl) ?_
  refine WP.nil ?_
  refine QE.next ?_
  refine CW.seq ?_
  refine CW.condD rfl (fun h_t42 => ?_) (fun h_t42 => ?_)
  · refine CW.skip ?_
    refine QE.next ?_
    refine CW.seq ?_
    refine CW.block ?_
    refine CW.seq ?_
    refine CW.region ?_
    refine WP.s .n (O.mv rfl) ?_
    refine WP.s .n (O.asg rfl) ?_
    refine WP.nil ?_
    refine QE.next ?_
    refine CW.seq ?_
    refine CW.region ?_
    refine WP.s .n (O.mv rfl) ?_
    refine WP.s .n (O.asg rfl) ?_
    refine WP.nil ?_
    refine QE.next ?_
    refine CW.seq ?_
    refine CW.seq ?_
    refine CW.region ?_
    refine WP.s .n (O.mv rfl) ?_
    refine WP.s .n (O.mv rfl) ?_
    refine WP.s .n (O.lt rfl rfl) ?_
    refine WP.nil ?_
    refine QE.next ?_
    refine CW.condD rfl (fun h_t47 => ?_) (fun h_t47 => ?_)
    · refine CW.region ?_
      refine WP.s .n (O.mv rfl) ?_
      refine WP.s .n (O.mv rfl) ?_
      refine WP.s .n (O.mv rfl) ?_
      refine WP.s .n (O.mv rfl) ?_
      refine WP.s .n (O.ix i rfl rfl Try.underlying22 ty50 rfl (v := (vs.getD i 0)) (gd 0 (by omega))) ?_
      refine WP.s .n (OpOk.le (O.ldP rfl ty50) (limb_le _)) ?_
      refine WP.s .n (O.cvt rfl Try.underlying50 Try.underlying62 (c := ((vs.getD i 0) : Int)) (wu64 (by omega))) ?_
      refine WP.s .n (O.mul rfl rfl (c := ((q * vs.getD i 0 : Nat) : Int)) (wu64 ⟨by norm_cast, by omega, by omega⟩)) ?_
      refine WP.s .n (O.add rfl rfl (c := ((c + q * vs.getD i 0 : Nat) : Int)) (wu64 (by omega))) ?_
      refine WP.s .n (O.asg rfl) ?_
      refine WP.nil ?_
      refine QE.next ?_
      refine CW.seq ?_
      refine CW.region ?_
      refine WP.s .n (O.mv rfl) ?_
      refine WP.s .n (O.shr rfl rfl (by omega) (c := (((c + q * vs.getD i 0) / 2 ^ 32 : Nat) : Int)) (shrN 32 rfl rfl (by decide))) ?_
      refine WP.s .n (O.asg rfl) ?_
      refine WP.nil ?_
      refine QE.next ?_
      refine CW.seq ?_
      refine CW.region ?_
      refine WP.s .n (O.mv rfl) ?_
      refine WP.s .n (O.mv rfl) ?_
      refine WP.s .n (O.ixW (sz := 1) i rfl rfl Try.underlying22 ty50 rfl (by omega)) ?_
      refine WP.s .n (OpOk.le (O.ldR (k := kLimb) (xs := (l.take o ++ w ++ l.drop (o + (vs.length + 1)))) (o + i) rfl (mem_at 0 rfl) (Lens.id _) (ho := offs1) (y := (w.getD i 0)) (win_get hol (by omega)) ty50 rfl) (limb_le _)) ?_
      refine WP.s .n (O.cvt rfl Try.underlying50 Try.underlying62 (c := ((w.getD i 0) : Int)) (wu64 (by omega))) ?_
      refine WP.s .n (O.mv rfl) ?_
      refine WP.s .n (O.cvt rfl Try.underlying62 Try.underlying50 (c := (((c + q * vs.getD i 0) % 4294967296 : Nat) : Int)) (wr32 rfl)) ?_
      refine WP.s .n (O.cvt rfl Try.underlying50 Try.underlying62 (c := (((c + q * vs.getD i 0) % 4294967296 : Nat) : Int)) (wu64 (by omega))) ?_
      refine WP.s .n (O.sub rfl rfl (c := ((lessV 0 (w.getD i 0) ((c + q * vs.getD i 0) % 4294967296) : Nat) : Int)) (dsub1 hx hpm)) ?_
      refine WP.s .n (O.mv rfl) ?_
      refine WP.s .n (O.sub rfl rfl (c := ((lessV b (w.getD i 0) ((c + q * vs.getD i 0) % 4294967296) : Nat) : Int)) (dsub2 hb hx hpm)) ?_
      refine WP.s .n (O.asg rfl) ?_
      refine WP.nil ?_
      refine QE.next ?_
      refine CW.seq ?_
      refine CW.region ?_
      refine WP.s .n (O.mv rfl) ?_
      refine WP.s .n (O.mv rfl) ?_
      refine WP.s .n (O.mv rfl) ?_
      refine WP.s .n (O.cvt rfl Try.underlying62 Try.underlying50 (c := ((lessV b (w.getD i 0) ((c + q * vs.getD i 0) % 4294967296) % 4294967296 : Nat) : Int)) (wr32 rfl)) ?_
      refine WP.s .n (O.ixW (sz := 1) i rfl rfl Try.underlying22 ty50 rfl (by omega)) ?_
      refine WP.t .n (O.stR 0 (o + i) rfl rfl (Lens.id _) offs1 (y0 := ((l.take o ++ w ++ l.drop (o + (vs.length + 1))).getD (o + i) 0)) (gd 0 (by omega)) ty50 rfl (u32_limb (x := (lessV b (w.getD i 0) ((c + q * vs.getD i 0) % 4294967296) % 4294967296 : Nat)) (by omega))) ?_
      refine WP.nil ?_
      refine QE.next ?_
      refine CW.region ?_
      refine WP.s .n (O.mv rfl) ?_
      refine WP.s .n (O.shr rfl rfl (by omega) (c := ((lessV b (w.getD i 0) ((c + q * vs.getD i 0) % 4294967296) / 2 ^ 63 : Nat) : Int)) (shrN 63 rfl rfl (by decide))) ?_
      refine WP.s .n (O.asg rfl) ?_
      refine WP.nil ?_
      refine QE.blkN ?_
      refine QE.next ?_
      refine CW.region ?_
      refine WP.s .n (O.add rfl rfl (c := ((i : Int) + 1)) (w64 (by omega))) ?_
      refine WP.s .n (O.mv rfl) ?_
      refine WP.nil ?_
      refine ST.obtold 0 rfl (OB.row_eq (ys := (l.take o ++ (w.set i (lessV b (w.getD i 0) ((c + q * vs.getD i 0) % 4294967296) % 4294967296)) ++ l.drop (o + (vs.length + 1)))) (win_set hol (by omega))) ?_
      exact QE.round4 (w.set i (lessV b (w.getD i 0) ((c + q * vs.getD i 0) % 4294967296) % 4294967296)) (i + 1) ((c + q * vs.getD i 0) / 2 ^ 32) (lessV b (w.getD i 0) ((c + q * vs.getD i 0) % 4294967296) / 2 ^ 63) (by omega) (digR_s lv hq (by omega) hD) (Imp.cons rfl (Imp.cons rfl (Imp.cons rfl (Imp.cons rfl (Imp.consLe rfl (is_eq (y := ((((c + q * vs.getD i 0) / 2 ^ 32) : Nat) : Int)) (by first | omega | rfl)) (Imp.consLe rfl (is_eq (y := (((lessV b (w.getD i 0) ((c + q * vs.getD i 0) % 4294967296) / 2 ^ 63) : Nat) : Int)) (by first | omega | rfl)) (Imp.cons rfl (Imp.consLe rfl (is_eq (y := (((i + 1) : Nat) : Int)) (by first | omega | rfl)) Imp.nil)))))))) (OImp.refl _)
    · have hy0 := getD_out (l := vs) (i := i) (by omega)
      refine ST.told 11 rfl (is_eq (y := ((c + q * vs.getD i 0 : Nat) : Int)) (by rw [hy0]; rfl)) ?_
      refine CW.skip ?_
      refine QE.next ?_
      refine CW.seq ?_
      refine CW.region ?_
      refine WP.s .n (O.mv rfl) ?_
      refine WP.s .n (O.shr rfl rfl (by omega) (c := (((c + q * vs.getD i 0) / 2 ^ 32 : Nat) : Int)) (shrN 32 rfl rfl (by decide))) ?_
      refine WP.s .n (O.asg rfl) ?_
      refine WP.nil ?_
      refine QE.next ?_
      refine CW.seq ?_
      refine CW.region ?_
      refine WP.s .n (O.mv rfl) ?_
      refine WP.s .n (O.mv rfl) ?_
      refine WP.s .n (O.ixW (sz := 1) i rfl rfl Try.underlying22 ty50 rfl (by omega)) ?_
      refine WP.s .n (OpOk.le (O.ldR (k := kLimb) (xs := (l.take o ++ w ++ l.drop (o + (vs.length + 1)))) (o + i) rfl (mem_at 0 rfl) (Lens.id _) (ho := offs1) (y := (w.getD i 0)) (win_get hol (by omega)) ty50 rfl) (limb_le _)) ?_
      refine WP.s .n (O.cvt rfl Try.underlying50 Try.underlying62 (c := ((w.getD i 0) : Int)) (wu64 (by omega))) ?_
      refine WP.s .n (O.mv rfl) ?_
      refine WP.s .n (O.cvt rfl Try.underlying62 Try.underlying50 (c := (((c + q * vs.getD i 0) % 4294967296 : Nat) : Int)) (wr32 rfl)) ?_
      refine WP.s .n (O.cvt rfl Try.underlying50 Try.underlying62 (c := (((c + q * vs.getD i 0) % 4294967296 : Nat) : Int)) (wu64 (by omega))) ?_
      refine WP.s .n (O.sub rfl rfl (c := ((lessV 0 (w.getD i 0) ((c + q * vs.getD i 0) % 4294967296) : Nat) : Int)) (dsub1 hx hpm)) ?_
      refine WP.s .n (O.mv rfl) ?_
      refine WP.s .n (O.sub rfl rfl (c := ((lessV b (w.getD i 0) ((c + q * vs.getD i 0) % 4294967296) : Nat) : Int)) (dsub2 hb hx hpm)) ?_
      refine WP.s .n (O.asg rfl) ?_
      refine WP.nil ?_
      refine QE.next ?_
      refine CW.seq ?_
      refine CW.region ?_
      refine WP.s .n (O.mv rfl) ?_
      refine WP.s .n (O.mv rfl) ?_
      refine WP.s .n (O.mv rfl) ?_
      refine WP.s .n (O.cvt rfl Try.underlying62 Try.underlying50 (c := ((lessV b (w.getD i 0) ((c + q * vs.getD i 0) % 4294967296) % 4294967296 : Nat) : Int)) (wr32 rfl)) ?_
      refine WP.s .n (O.ixW (sz := 1) i rfl rfl Try.underlying22 ty50 rfl (by omega)) ?_
      refine WP.t .n (O.stR 0 (o + i) rfl rfl (Lens.id _) offs1 (y0 := ((l.take o ++ w ++ l.drop (o + (vs.length + 1))).getD (o + i) 0)) (gd 0 (by omega)) ty50 rfl (u32_limb (x := (lessV b (w.getD i 0) ((c + q * vs.getD i 0) % 4294967296) % 4294967296 : Nat)) (by omega))) ?_
      refine WP.nil ?_
      refine QE.next ?_
      refine CW.region ?_
      refine WP.s .n (O.mv rfl) ?_
      refine WP.s .n (O.shr rfl rfl (by omega) (c := ((lessV b (w.getD i 0) ((c + q * vs.getD i 0) % 4294967296) / 2 ^ 63 : Nat) : Int)) (shrN 63 rfl rfl (by decide))) ?_
      refine WP.s .n (O.asg rfl) ?_
      refine WP.nil ?_
      refine QE.blkN ?_
      refine QE.next ?_
      refine CW.region ?_
      refine WP.s .n (O.add rfl rfl (c := ((i : Int) + 1)) (w64 (by omega))) ?_
      refine WP.s .n (O.mv rfl) ?_
      refine WP.nil ?_
      refine ST.obtold 0 rfl (OB.row_eq (ys := (l.take o ++ (w.set i (lessV b (w.getD i 0) ((c + q * vs.getD i 0) % 4294967296) % 4294967296)) ++ l.drop (o + (vs.length + 1)))) (win_set hol (by omega))) ?_
      exact QE.round4 (w.set i (lessV b (w.getD i 0) ((c + q * vs.getD i 0) % 4294967296) % 4294967296)) (i + 1) ((c + q * vs.getD i 0) / 2 ^ 32) (lessV b (w.getD i 0) ((c + q * vs.getD i 0) % 4294967296) / 2 ^ 63) (by omega) (digR_s lv hq (by omega) hD) (Imp.cons rfl (Imp.cons rfl (Imp.cons rfl (Imp.cons rfl (Imp.consLe rfl (is_eq (y := ((((c + q * vs.getD i 0) / 2 ^ 32) : Nat) : Int)) (by first | omega | rfl)) (Imp.consLe rfl (is_eq (y := (((lessV b (w.getD i 0) ((c + q * vs.getD i 0) % 4294967296) / 2 ^ 63) : Nat) : Int)) (by first | omega | rfl)) (Imp.cons rfl (Imp.consLe rfl (is_eq (y := (((i + 1) : Nat) : Int)) (by first | omega | rfl)) Imp.nil)))))))) (OImp.refl _)
  · refine CW.exit ?_
    refine QE.thenE ?_
    refine QE.thenE ?_
    refine QE.blkH ?_
    refine QE.next ?_
    refine CW.seq ?_
    refine CW.block ?_
    refine CW.loop3 (fun (w : List Nat) (q : Nat) (b : Nat) => DigS w0 vs w q b) (fun (w : List Nat) (q : Nat) (b : Nat) => [(0, VP.win v o (vs.length + 1)), (1, kN.is vs), (5, (kInt .i64).is (vs.length : Int)), (7, (kInt .u64).is (q : Int)), (9, (kInt .u64).is (b : Int))]) (fun (w : List Nat) (q : Nat) (b : Nat) => [OB.row v 50 kLimb (l.take o ++ w ++ l.drop (o + (vs.length + 1)))]) (fun (w : List Nat) (q : Nat) (b : Nat) => q) w q b (digS_0 (by omega) hw0l hq hq2 hD) (Imp.cons rfl (Imp.cons rfl (Imp.cons rfl (Imp.cons rfl (Imp.cons rfl Imp.nil))))) (OImp.refl _) ?_
    intro w q b hS
    have hq := hS.2.2.2.1
    have hb := hS.2.2.1
    refine CW.seq ?_
    refine CW.seq ?_
    refine CW.region ?_
    refine WP.s .n (O.mv rfl) ?_
    refine WP.s .n (O.gt rfl rfl) ?_
    refine WP.nil ?_
    refine QE.next ?_
    refine CW.condD rfl (fun h_t79 => ?_) (fun h_t79 => ?_)
    · refine CW.skip ?_
      refine QE.next ?_
      refine CW.block ?_
      refine CW.seq ?_
      have hq1 := digS_pos hS (by omega)
      refine CW.region ?_
      refine WP.s .n (O.mv rfl) ?_
      refine WP.s .n (O.sub rfl rfl (c := ((q - 1 : Nat) : Int)) (wu64 (by omega))) ?_
      refine WP.s .n (O.asg rfl) ?_
      refine WP.nil ?_
      refine QE.next ?_
      refine CW.seq ?_
      obtain ⟨w1, hw1⟩ : ∃ w1, w1 = w := ⟨_, rfl⟩
      refine ST.obtold 0 rfl (OB.row_eq (ys := (l.take o ++ w1 ++ l.drop (o + (vs.length + 1)))) (by rw [hw1])) ?_
      rw [← hw1] at hS
      refine CW.region ?_
      refine WP.s .n (O.asg rfl) ?_
      refine WP.nil ?_
      refine QE.next ?_
      refine CW.seq ?_
      refine CW.seq ?_
      refine CW.region ?_
      refine WP.s .n (O.mv rfl) ?_
      refine WP.s .n (O.add rfl rfl (c := ((vs.length : Int) + 1)) (w64 (by omega))) ?_
      refine WP.s .n (O.mv rfl) ?_
      refine WP.nil ?_
      refine QE.next ?_
      refine CW.block ?_
      refine CW.loop3 (fun (w : List Nat) (i : Nat) (c : Nat) => DigA w1 vs w i c) (fun (w : List Nat) (i : Nat) (c : Nat) => [(0, VP.win v o (vs.length + 1)), (1, kN.is vs), (5, (kInt .i64).is (vs.length : Int)), (7, (kInt .u64).is ((q - 1 : Nat) : Int)), (9, (kInt .u64).is (b : Int)), (13, (kInt .u64).is (c : Int)), (83, (kInt .i64).is ((vs.length : Int) + 1)), (84, (kInt .i64).is (i : Int))]) (fun (w : List Nat) (i : Nat) (c : Nat) => [OB.row v 50 kLimb (l.take o ++ w ++ l.drop (o + (vs.length + 1)))]) (fun (w : List Nat) (i : Nat) (c : Nat) => vs.length + 1 - i) w1 0 0 (digA_0 hS) (Imp.cons rfl (Imp.cons rfl (Imp.cons rfl (Imp.cons rfl (Imp.cons rfl (Imp.consLe rfl (is_eq (y := (0 : Int)) (by first | omega | rfl)) (Imp.cons rfl (Imp.consLe rfl (is_eq (y := (0 : Int)) (by first | omega | rfl)) Imp.nil)))))))) (OImp.refl _) ?_
      intro w i c hA
      have hwl := hA.2.1
      have hx := getD_lt hA.2.2.1 i
      have hc := hA.2.2.2.1
      have hy := getD_lt lv i
      have hrl := win_len (o := o) ho hwl
      have hi := hA.1
      refine CW.seq ?_
      refine CW.region ?_
      refine WP.s .n (O.lt rfl rfl) ?_
      refine WP.nil ?_
      refine QE.next ?_
      refine CW.seq ?_
      refine CW.condD rfl (fun h_t85 => ?_) (fun h_t85 => ?_)
      · refine CW.skip ?_
        refine QE.next ?_
        refine CW.seq ?_
        refine CW.block ?_
        refine CW.seq ?_
        refine CW.region ?_
        refine WP.s .n (O.mv rfl) ?_
        refine WP.s .n (O.asg rfl) ?_
        refine WP.nil ?_
        refine QE.next ?_
        refine CW.seq ?_
        refine CW.region ?_
        refine WP.s .n (O.mv rfl) ?_
        refine WP.s .n (O.mv rfl) ?_
        refine WP.s .n (O.mv rfl) ?_
        refine WP.s .n (O.ixW (sz := 1) i rfl rfl Try.underlying22 ty50 rfl (by omega)) ?_
        refine WP.s .n (OpOk.le (O.ldR (k := kLimb) (xs := (l.take o ++ w ++ l.drop (o + (vs.length + 1)))) (o + i) rfl (mem_at 0 rfl) (Lens.id _) (ho := offs1) (y := (w.getD i 0)) (win_get hol (by omega)) ty50 rfl) (limb_le _)) ?_
        refine WP.s .n (O.cvt rfl Try.underlying50 Try.underlying62 (c := ((w.getD i 0) : Int)) (wu64 (by omega))) ?_
        refine WP.s .n (O.add rfl rfl (c := ((c : Int) + ((w.getD i 0) : Int))) (wu64 (by omega))) ?_
        refine WP.s .n (O.asg rfl) ?_
        refine WP.nil ?_
        refine QE.next ?_
        refine CW.seq ?_
        refine CW.seq ?_
        refine CW.region ?_
        refine WP.s .n (O.mv rfl) ?_
        refine WP.s .n (O.mv rfl) ?_
        refine WP.s .n (O.lt rfl rfl) ?_
        refine WP.nil ?_
        refine QE.next ?_
        refine CW.condD rfl (fun h_t96 => ?_) (fun h_t96 => ?_)
        · refine CW.region ?_
          refine WP.s .n (O.mv rfl) ?_
          refine WP.s .n (O.mv rfl) ?_
          refine WP.s .n (O.mv rfl) ?_
          refine WP.s .n (O.ix i rfl rfl Try.underlying22 ty50 rfl (v := (vs.getD i 0)) (gd 0 (by omega))) ?_
          refine WP.s .n (OpOk.le (O.ldP rfl ty50) (limb_le _)) ?_
          refine WP.s .n (O.cvt rfl Try.underlying50 Try.underlying62 (c := ((vs.getD i 0) : Int)) (wu64 (by omega))) ?_
          refine WP.s .n (O.add rfl rfl (c := (((c : Int) + ((w.getD i 0) : Int)) + ((vs.getD i 0) : Int))) (wu64 (by omega))) ?_
          refine WP.s .n (O.asg rfl) ?_
          refine WP.nil ?_
          refine QE.next ?_
          refine CW.seq ?_
          refine CW.region ?_
          refine WP.s .n (O.mv rfl) ?_
          refine WP.s .n (O.mv rfl) ?_
          refine WP.s .n (O.mv rfl) ?_
          refine WP.s .n (O.cvt rfl Try.underlying62 Try.underlying50 (c := (((c + w.getD i 0 + vs.getD i 0) % 4294967296 : Nat) : Int)) (wr32 (by omega))) ?_
          refine WP.s .n (O.ixW (sz := 1) i rfl rfl Try.underlying22 ty50 rfl (by omega)) ?_
          refine WP.t .n (O.stR 0 (o + i) rfl rfl (Lens.id _) offs1 (y0 := ((l.take o ++ w ++ l.drop (o + (vs.length + 1))).getD (o + i) 0)) (gd 0 (by omega)) ty50 rfl (u32_limb (x := ((c + w.getD i 0 + vs.getD i 0) % 4294967296 : Nat)) (by omega))) ?_
          refine WP.nil ?_
          refine QE.next ?_
          refine CW.region ?_
          refine WP.s .n (O.mv rfl) ?_
          refine WP.s .n (O.shr rfl rfl (by omega) (c := (((c + w.getD i 0 + vs.getD i 0) / 2 ^ 32 : Nat) : Int)) (shrN 32 (by omega) rfl (by decide))) ?_
          refine WP.s .n (O.asg rfl) ?_
          refine WP.nil ?_
          refine QE.blkN ?_
          refine QE.next ?_
          refine CW.region ?_
          refine WP.s .n (O.add rfl rfl (c := ((i : Int) + 1)) (w64 (by omega))) ?_
          refine WP.s .n (O.mv rfl) ?_
          refine WP.nil ?_
          refine ST.obtold 0 rfl (OB.row_eq (ys := (l.take o ++ (w.set i ((c + w.getD i 0 + vs.getD i 0) % 4294967296)) ++ l.drop (o + (vs.length + 1)))) (win_set hol (by omega))) ?_
          exact QE.round3 (w.set i ((c + w.getD i 0 + vs.getD i 0) % 4294967296)) (i + 1) ((c + w.getD i 0 + vs.getD i 0) / 2 ^ 32) (by omega) (digA_s lv (by omega) hA) (Imp.cons rfl (Imp.cons rfl (Imp.cons rfl (Imp.cons rfl (Imp.cons rfl (Imp.consLe rfl (is_eq (y := ((((c + w.getD i 0 + vs.getD i 0) / 2 ^ 32) : Nat) : Int)) (by first | omega | rfl)) (Imp.cons rfl (Imp.consLe rfl (is_eq (y := (((i + 1) : Nat) : Int)) (by first | omega | rfl)) Imp.nil)))))))) (OImp.refl _)
        · have hy0 := getD_out (l := vs) (i := i) (by omega)
          refine CW.skip ?_
          refine QE.next ?_
          refine CW.seq ?_
          refine CW.region ?_
          refine WP.s .n (O.mv rfl) ?_
          refine WP.s .n (O.mv rfl) ?_
          refine WP.s .n (O.mv rfl) ?_
          refine WP.s .n (O.cvt rfl Try.underlying62 Try.underlying50 (c := (((c + w.getD i 0 + vs.getD i 0) % 4294967296 : Nat) : Int)) (wr32 (by omega))) ?_
          refine WP.s .n (O.ixW (sz := 1) i rfl rfl Try.underlying22 ty50 rfl (by omega)) ?_
          refine WP.t .n (O.stR 0 (o + i) rfl rfl (Lens.id _) offs1 (y0 := ((l.take o ++ w ++ l.drop (o + (vs.length + 1))).getD (o + i) 0)) (gd 0 (by omega)) ty50 rfl (u32_limb (x := ((c + w.getD i 0 + vs.getD i 0) % 4294967296 : Nat)) (by omega))) ?_
          refine WP.nil ?_
          refine QE.next ?_
          refine CW.region ?_
          refine WP.s .n (O.mv rfl) ?_
          refine WP.s .n (O.shr rfl rfl (by omega) (c := (((c + w.getD i 0 + vs.getD i 0) / 2 ^ 32 : Nat) : Int)) (shrN 32 (by omega) rfl (by decide))) ?_
          refine WP.s .n (O.asg rfl) ?_
          refine WP.nil ?_
          refine QE.blkN ?_
          refine QE.next ?_
          refine CW.region ?_
          refine WP.s .n (O.add rfl rfl (c := ((i : Int) + 1)) (w64 (by omega))) ?_
          refine WP.s .n (O.mv rfl) ?_
          refine WP.nil ?_
          refine ST.obtold 0 rfl (OB.row_eq (ys := (l.take o ++ (w.set i ((c + w.getD i 0 + vs.getD i 0) % 4294967296)) ++ l.drop (o + (vs.length + 1)))) (win_set hol (by omega))) ?_
          exact QE.round3 (w.set i ((c + w.getD i 0 + vs.getD i 0) % 4294967296)) (i + 1) ((c + w.getD i 0 + vs.getD i 0) / 2 ^ 32) (by omega) (digA_s lv (by omega) hA) (Imp.cons rfl (Imp.cons rfl (Imp.cons rfl (Imp.cons rfl (Imp.cons rfl (Imp.consLe rfl (is_eq (y := ((((c + w.getD i 0 + vs.getD i 0) / 2 ^ 32) : Nat) : Int)) (by first | omega | rfl)) (Imp.cons rfl (Imp.consLe rfl (is_eq (y := (((i + 1) : Nat) : Int)) (by first | omega | rfl)) Imp.nil)))))))) (OImp.refl _)
      · refine CW.exit ?_
        refine QE.thenE ?_
        refine QE.thenE ?_
        refine QE.blkH ?_
        refine QE.next ?_
        refine CW.region ?_
        refine WP.s .n (O.mv rfl) ?_
        refine WP.s .n (O.mv rfl) ?_
        refine WP.s .n (O.sub rfl rfl (c := ((b - c : Nat) : Int)) (wu64 (by omega))) ?_
        refine WP.s .n (O.asg rfl) ?_
        refine WP.nil ?_
        refine QE.blkN ?_
        exact QE.round3 w (q - 1) (b - c) (by have := (digA_end (by omega) (by omega) hS hA).2; omega) (digA_end (by omega) (by omega) hS hA).1 (Imp.cons rfl (Imp.cons rfl (Imp.cons rfl (Imp.consLe rfl (is_eq (y := (((q - 1) : Nat) : Int)) (by first | omega | rfl)) (Imp.consLe rfl (is_eq (y := (((b - c) : Nat) : Int)) (by first | omega | rfl)) Imp.nil))))) (OImp.refl _)
    · refine CW.exit ?_
      refine QE.thenE ?_
      refine QE.thenE ?_
      refine QE.blkH ?_
      refine QE.next ?_
      refine CW.seq ?_
      refine CW.region ?_
      refine WP.s .n (O.mv rfl) ?_
      refine WP.s .n (O.cvt rfl Try.underlying62 Try.underlying50 (c := (q : Int)) (wrs32 (by omega))) ?_
      refine WP.s .n (O.asg rfl) ?_
      refine WP.nil ?_
      refine QE.next ?_
      refine CW.ret ?_
      have hend := digS_end (by omega) hS (top_ne hv hn)
      refine ST.told 4 rfl (is_eq (y := ((nval ((l.drop o).take (vs.length + 1)) / nval vs : Nat) : Int)) (by rw [hend.1, hw0])) ?_
      exact QE.done (.inl rfl) rfl (ResOk.t rfl ResOk.nil) (OImp.refl _) ⟨w, rfl, rfl, (by rw [← hw0]; exact hend.2)⟩

set_option maxRecDepth 20000 in
set_option maxHeartbeats 1000000 in
theorem c_nat_shl (l : List Nat) (n : Nat) (hn : n < 32) (hB : l.length ≤ 1099511627000) : Con Try.prog 67 [kN.is l, (kInt .i64).is (n : Int)] [] (fun p Lo => ∃ (u : Value), p = VP.ex u ∧ Lo = [OB.row u 50 kLimb (limbs (nval l * 2 ^ n))] ∧ True) := by
  refine Con.enter Try.func67 rfl rfl fun m w => ?_
  refine ST.fact (i := 0) rfl kN_lims fun hL => ?_
  have hll := limbs_len_le hL
  have lA := limbs_lims (nval l)
  refine CW.seq ?_
  refine CW.region ?_
  refine WP.s .n (O.asg rfl) ?_
  refine WP.nil ?_
  refine QE.next ?_
  refine CW.seq ?_
  refine CW.region ?_
  refine WP.s .n (O.mv rfl) ?_
  refine WP.s .n (O.fn fn49 (evs.c rfl evs.nil) (c_nat_trim l)) ?_
  refine WP.s .n (O.asg rfl) ?_
  refine WP.nil ?_
  refine QE.next ?_
  refine CW.seq ?_
  refine CW.seq ?_
  refine CW.region ?_
  refine WP.s .n (O.mv rfl) ?_
  refine WP.s .n (O.lenS rfl Try.underlying22) ?_
  refine WP.s .n (O.eq rfl rfl) ?_
  refine WP.nil ?_
  refine QE.next ?_
  refine CW.condD rfl (fun h_t14 => ?_) (fun h_t14 => ?_)
  · refine CW.seq ?_
    refine CW.region ?_
    refine WP.s .n (O.asg rfl) ?_
    refine WP.nil ?_
    refine QE.next ?_
    refine CW.ret ?_
    refine QE.thenR ?_
    refine ST.nilrow 50 kLimb ?_
    refine ST.obtold 0 rfl (OB.row_eq (ys := (limbs (nval l * 2 ^ n))) (by rw [limbs0 (n := nval l) (by omega), Nat.zero_mul, limbs_zero])) ?_
    exact QE.done (.inl rfl) rfl (ResOk.t rfl ResOk.nil) (OImp.refl _) ⟨(.slice none 0 0), rfl, rfl, trivial⟩
  · refine CW.skip ?_
    refine QE.next ?_
    refine CW.seq ?_
    refine CW.region ?_
    refine WP.s .n (O.mv rfl) ?_
    refine WP.s .n (O.quo rfl rfl (by omega) (c := 0) (quo32 hn)) ?_
    refine WP.s .n (O.mv rfl) ?_
    refine WP.s .n (O.rem rfl rfl (by omega) (c := (n : Int)) (rem32 hn)) ?_
    refine WP.s .n (O.cvt rfl Try.underlying3 Try.underlying64 (c := (n : Int)) (wu64 (by omega))) ?_
    refine WP.s .n (O.asg rfl) ?_
    refine WP.s .n (O.asg rfl) ?_
    refine WP.nil ?_
    refine QE.next ?_
    refine CW.seq ?_
    refine CW.region ?_
    refine WP.s .n (O.mv rfl) ?_
    refine WP.s .n (O.lenS rfl Try.underlying22) ?_
    refine WP.s .n (O.mv rfl) ?_
    refine WP.s .n (O.add rfl rfl (c := (((limbs (nval l)).length : Int) + 0)) (w64 (by omega))) ?_
    refine WP.s .n (O.add rfl rfl (c := ((((limbs (nval l)).length : Int) + 0) + 1)) (w64 (by omega))) ?_
    refine WP.mk ((limbs (nval l)).length + 1) .n rfl rfl (by omega) (by first | omega | (simp; omega)) Try.underlying22 el50_limb z50_limb fun v1 => ?_
    refine WP.s .n (O.asg rfl) ?_
    refine WP.nil ?_
    refine QE.next ?_
    refine CW.seq ?_
    refine CW.seq ?_
    refine CW.region ?_
    refine WP.s .n (O.mv rfl) ?_
    refine WP.s .n (O.lenS rfl Try.underlying22) ?_
    refine WP.s .n (O.mv rfl) ?_
    refine WP.nil ?_
    refine QE.next ?_
    refine CW.block ?_
    refine CW.loop2 (fun (row : List Nat) (i : Nat) => ShlR (limbs (nval l)) row n i) (fun (row : List Nat) (i : Nat) => [(0, kN.is (limbs (nval l))), (5, (kInt .i64).is 0), (6, (kInt .u64).is (n : Int)), (7, VP.ex v1), (27, (kInt .i64).is ((limbs (nval l)).length : Int)), (28, (kInt .i64).is (i : Int))]) (fun (row : List Nat) (i : Nat) => [OB.row v1 50 kLimb row]) (fun (row : List Nat) (i : Nat) => (limbs (nval l)).length - i) (List.replicate ((limbs (nval l)).length + 1) 0) 0 (shlR_0 _ _) (Imp.cons rfl (Imp.cons rfl (Imp.cons rfl (Imp.cons rfl (Imp.cons rfl (Imp.consLe rfl (is_eq (y := (0 : Int)) (by first | omega | rfl | simp)) Imp.nil)))))) (OImp.refl _) ?_
    intro row i hS
    have hrl := hS.2.1
    have hi := hS.1
    have hx := getD_lt lA i
    have ht := hS.2.2.2.1
    have k1 := shl_hi hn hx
    have k3 := shl_or (x := (limbs (nval l)).getD i 0) hn ht
    have k4 := (pow32 hn).2.1
    refine CW.seq ?_
    refine CW.region ?_
    refine WP.s .n (O.lt rfl rfl) ?_
    refine WP.nil ?_
    refine QE.next ?_
    refine CW.seq ?_
    refine CW.condD rfl (fun h_t29 => ?_) (fun h_t29 => ?_)
    · refine CW.skip ?_
      refine QE.next ?_
      refine CW.seq ?_
      refine CW.block ?_
      refine CW.seq ?_
      refine CW.region ?_
      refine WP.s .n (O.mv rfl) ?_
      refine WP.s .n (O.asg rfl) ?_
      refine WP.nil ?_
      refine QE.next ?_
      refine CW.seq ?_
      refine CW.region ?_
      refine WP.s .n (O.mv rfl) ?_
      refine WP.s .n (O.mv rfl) ?_
      refine WP.s .n (O.ix i rfl rfl Try.underlying22 ty50 rfl (v := ((limbs (nval l)).getD i 0)) (gd 0 (by first | omega | (simp; omega)))) ?_
      refine WP.s .n (OpOk.le (O.ldP rfl ty50) (limb_le _)) ?_
      refine WP.s .n (O.cvt rfl Try.underlying50 Try.underlying62 (c := (((limbs (nval l)).getD i 0) : Int)) (wu64 (by omega))) ?_
      refine WP.s .n (O.mv rfl) ?_
      refine WP.s .n (O.shl rfl rfl (by omega) (c := (((limbs (nval l)).getD i 0 * 2 ^ n : Nat) : Int)) (shlN n rfl rfl (by omega) k1.2)) ?_
      refine WP.s .n (O.asg rfl) ?_
      refine WP.nil ?_
      refine QE.next ?_
      refine CW.seq ?_
      refine CW.region ?_
      refine WP.s .n (O.mv rfl) ?_
      refine WP.s .n (O.mv rfl) ?_
      refine WP.s .n (O.mv rfl) ?_
      refine WP.s .n (O.add rfl rfl (c := ((i : Int) + 0)) (w64 (by omega))) ?_
      refine WP.s .n (O.ixR (k := kLimb) (xs := row) (n := ((i : Int) + 0)) i rfl rfl (mem_at 0 rfl) Try.underlying22 ty50 (by omega) (by first | omega | (simp; omega))) ?_
      refine WP.s .n (OpOk.le (O.ldR i rfl (mem_at 0 rfl) (Lens.id _) rfl (y := (row.getD i 0)) (gd 0 (by first | omega | (simp; omega))) ty50 rfl) (limb_le _)) ?_
      refine WP.s .n (O.mv rfl) ?_
      refine WP.s .n (O.cvt rfl Try.underlying62 Try.underlying50 (c := (((limbs (nval l)).getD i 0 % 2 ^ (32 - n) * 2 ^ n : Nat) : Int)) (by rw [wr32 rfl, shl_lo hn])) ?_
      refine WP.s .n (O.or rfl rfl (c := (((limbs (nval l)).getD i 0 % 2 ^ (32 - n) * 2 ^ n + row.getD i 0 : Nat) : Int)) (orN32 n rfl rfl ht k3)) ?_
      refine WP.s .n (O.ixR (k := kLimb) (xs := row) (n := ((i : Int) + 0)) i rfl rfl (mem_at 0 rfl) Try.underlying22 ty50 (by omega) (by first | omega | (simp; omega))) ?_
      refine WP.t .n (O.stR 0 i rfl rfl (Lens.id _) rfl (y0 := (row.getD i 0)) (gd 0 (by first | omega | (simp; omega))) ty50 rfl (u32_limb (x := ((limbs (nval l)).getD i 0 % 2 ^ (32 - n) * 2 ^ n + row.getD i 0 : Nat)) (by omega))) ?_
      refine WP.nil ?_
      refine QE.next ?_
      refine CW.region ?_
      refine WP.s .n (O.mv rfl) ?_
      refine WP.s .n (O.mv rfl) ?_
      refine WP.s .n (O.mv rfl) ?_
      refine WP.s .n (O.add rfl rfl (c := ((i : Int) + 0)) (w64 (by omega))) ?_
      refine WP.s .n (O.add rfl rfl (c := (((i : Int) + 0) + 1)) (w64 (by omega))) ?_
      refine WP.s .n (O.mv rfl) ?_
      refine WP.s .n (O.shr rfl rfl (by omega) (c := (((limbs (nval l)).getD i 0 * 2 ^ n / 2 ^ 32 : Nat) : Int)) (shrN 32 rfl rfl (by decide))) ?_
      refine WP.s .n (O.cvt rfl Try.underlying62 Try.underlying50 (c := (((limbs (nval l)).getD i 0 * 2 ^ n / 2 ^ 32 : Nat) : Int)) (wrs32 ⟨rfl, by omega⟩)) ?_
      refine WP.s .n (O.ixR (k := kLimb) (xs := (row.set i ((limbs (nval l)).getD i 0 % 2 ^ (32 - n) * 2 ^ n + row.getD i 0 : Nat))) (n := (((i : Int) + 0) + 1)) (i + 1) rfl rfl (mem_at 0 rfl) Try.underlying22 ty50 (by omega) (by first | omega | (simp; omega))) ?_
      refine WP.t .n (O.stR 0 (i + 1) rfl rfl (Lens.id _) rfl (y0 := ((row.set i ((limbs (nval l)).getD i 0 % 2 ^ (32 - n) * 2 ^ n + row.getD i 0 : Nat)).getD (i + 1) 0)) (gd 0 (by first | omega | (simp; omega))) ty50 rfl (u32_limb (x := ((limbs (nval l)).getD i 0 * 2 ^ n / 2 ^ 32 : Nat)) (by omega))) ?_
      refine WP.nil ?_
      refine QE.blkN ?_
      refine QE.next ?_
      refine CW.region ?_
      refine WP.s .n (O.add rfl rfl (c := ((i : Int) + 1)) (w64 (by omega))) ?_
      refine WP.s .n (O.mv rfl) ?_
      refine WP.nil ?_
      exact QE.round2 ((row.set i ((limbs (nval l)).getD i 0 % 2 ^ (32 - n) * 2 ^ n + row.getD i 0)).set (i + 1) ((limbs (nval l)).getD i 0 * 2 ^ n / 2 ^ 32)) (i + 1) (by omega) (shlR_s lA hn (by omega) hS) (Imp.cons rfl (Imp.cons rfl (Imp.cons rfl (Imp.cons rfl (Imp.cons rfl (Imp.consLe rfl (is_eq (y := (((i + 1) : Nat) : Int)) (by first | omega | rfl | simp)) Imp.nil)))))) (OImp.os (OS.keepLe (OB.row_eq (by first | omega | rfl | simp)) OS.nil))
    · refine CW.exit ?_
      refine QE.thenE ?_
      refine QE.thenE ?_
      refine QE.blkH ?_
      refine QE.next ?_
      refine CW.seq ?_
      refine CW.region ?_
      refine WP.s .n (O.mv rfl) ?_
      refine WP.call (Li := [OB.row v1 50 kLimb row]) (L := []) .n fn49 (evs.c rfl evs.nil) (c_trimO v1 row) fun p_ Lo_ hp_ => ?_
      obtain ⟨v2, rfl, rfl, hx_t59⟩ := hp_
      refine WP.s .n (O.asg rfl) ?_
      refine WP.nil ?_
      refine QE.next ?_
      refine CW.ret ?_
      refine ST.obtold 0 rfl (OB.row_eq (ys := (limbs (nval l * 2 ^ n))) (by rw [shlR_end (by omega) hS, nval_limbs])) ?_
      exact QE.done (.inl rfl) rfl (ResOk.t rfl ResOk.nil) (OImp.refl _) ⟨v2, rfl, rfl, trivial⟩

set_option maxRecDepth 20000 in
set_option maxHeartbeats 1000000 in
theorem c_nat_shr (l : List Nat) (n : Nat) (hn : n < 32) : Fn Try.prog 69 [kN.is l, (kInt .i64).is (n : Int)] (kN.is (limbs (nval l / 2 ^ n))) := by
  refine Con.enter Try.func69 rfl rfl fun m w => ?_
  refine ST.fact (i := 0) rfl kN_lims fun hL => ?_
  have hll := limbs_len_le hL
  have lA := limbs_lims (nval l)
  refine ST.fact (i := 0) rfl sl_len fun hB => ?_
  refine CW.seq ?_
  refine CW.region ?_
  refine WP.s .n (O.asg rfl) ?_
  refine WP.nil ?_
  refine QE.next ?_
  refine CW.seq ?_
  refine CW.region ?_
  refine WP.s .n (O.mv rfl) ?_
  refine WP.s .n (O.fn fn49 (evs.c rfl evs.nil) (c_nat_trim l)) ?_
  refine WP.s .n (O.asg rfl) ?_
  refine WP.nil ?_
  refine QE.next ?_
  refine CW.seq ?_
  refine CW.region ?_
  refine WP.s .n (O.mv rfl) ?_
  refine WP.s .n (O.quo rfl rfl (by omega) (c := 0) (quo32 hn)) ?_
  refine WP.s .n (O.mv rfl) ?_
  refine WP.s .n (O.rem rfl rfl (by omega) (c := (n : Int)) (rem32 hn)) ?_
  refine WP.s .n (O.cvt rfl Try.underlying3 Try.underlying64 (c := (n : Int)) (wu64 (by omega))) ?_
  refine WP.s .n (O.asg rfl) ?_
  refine WP.s .n (O.asg rfl) ?_
  refine WP.nil ?_
  refine QE.next ?_
  refine CW.seq ?_
  refine CW.seq ?_
  refine CW.region ?_
  refine WP.s .n (O.mv rfl) ?_
  refine WP.s .n (O.mv rfl) ?_
  refine WP.s .n (O.lenS rfl Try.underlying22) ?_
  refine WP.s .n (O.ge rfl rfl) ?_
  refine WP.nil ?_
  refine QE.next ?_
  refine CW.condD rfl (fun h_t20 => ?_) (fun h_t20 => ?_)
  · refine CW.seq ?_
    refine CW.region ?_
    refine WP.s .n (O.asg rfl) ?_
    refine WP.nil ?_
    refine QE.next ?_
    refine CW.ret ?_
    refine QE.thenR ?_
    refine ST.told (q := kN.is ([] : List Nat)) 4 rfl (nil_le _) ?_
    refine ST.told 4 rfl (is_eq (y := (limbs (nval l / 2 ^ n))) (by rw [limbs0 (n := nval l) (by omega), Nat.zero_div, limbs_zero])) ?_
    exact QE.done (.inl rfl) rfl (ResOk.t rfl ResOk.nil) (OImp.sub (List.nil_sublist _)) ⟨rfl, rfl⟩
  · refine CW.skip ?_
    refine QE.next ?_
    refine CW.seq ?_
    refine CW.region ?_
    refine WP.s .n (O.mv rfl) ?_
    refine WP.s .n (O.lenS rfl Try.underlying22) ?_
    refine WP.s .n (O.mv rfl) ?_
    refine WP.s .n (O.sub rfl rfl (c := (((limbs (nval l)).length : Int) - 0)) (w64 (by omega))) ?_
    refine WP.mk ((limbs (nval l)).length) .n rfl rfl (by omega) (by first | omega | (simp; omega)) Try.underlying22 el50_limb z50_limb fun v1 => ?_
    refine WP.s .n (O.asg rfl) ?_
    refine WP.nil ?_
    refine QE.next ?_
    refine CW.seq ?_
    refine CW.seq ?_
    refine CW.region ?_
    refine WP.s .n (O.mv rfl) ?_
    refine WP.s .n (O.lenR rfl (mem_at 0 rfl) Try.underlying22) ?_
    refine WP.s .n (O.mv rfl) ?_
    refine WP.nil ?_
    refine QE.next ?_
    refine CW.block ?_
    refine CW.loop (fun (r : List Nat) => ShrR (limbs (nval l)) r n) (fun (r : List Nat) => [(0, kN.is (limbs (nval l))), (5, (kInt .i64).is 0), (6, (kInt .u64).is (n : Int)), (7, VP.ex v1), (27, (kInt .i64).is ((limbs (nval l)).length : Int)), (28, (kInt .i64).is (r.length : Int))]) (fun (r : List Nat) => [OB.row v1 50 kLimb (fil (limbs (nval l)).length r)]) (fun (r : List Nat) => (limbs (nval l)).length - r.length) [] (shrR_0 _ _) (Imp.cons rfl (Imp.cons rfl (Imp.cons rfl (Imp.cons rfl (Imp.consLe rfl (is_eq (y := ((limbs (nval l)).length : Int)) (by first | omega | rfl | simp)) (Imp.consLe rfl (is_eq (y := ([].length : Int)) (by first | omega | rfl | simp)) Imp.nil)))))) (OImp.os (.keepLe (OB.row_eq (fil_nil _)) .nil)) ?_
    intro r hS
    have hi := hS.1
    have hx := getD_lt lA r.length
    have hy := getD_lt lA (r.length + 1)
    have hfl := fil_len (n := (limbs (nval l)).length) (r := r) (by omega)
    refine CW.seq ?_
    refine CW.region ?_
    refine WP.s .n (O.lt rfl rfl) ?_
    refine WP.nil ?_
    refine QE.next ?_
    refine CW.seq ?_
    refine CW.condD rfl (fun h_t29 => ?_) (fun h_t29 => ?_)
    · refine CW.skip ?_
      refine QE.next ?_
      refine CW.seq ?_
      refine CW.block ?_
      refine CW.seq ?_
      refine CW.region ?_
      refine WP.s .n (O.mv rfl) ?_
      refine WP.s .n (O.asg rfl) ?_
      refine WP.nil ?_
      refine QE.next ?_
      refine CW.seq ?_
      refine CW.region ?_
      refine WP.s .n (O.mv rfl) ?_
      refine WP.s .n (O.mv rfl) ?_
      refine WP.s .n (O.mv rfl) ?_
      refine WP.s .n (O.add rfl rfl (c := ((r.length : Int) + 0)) (w64 (by omega))) ?_
      refine WP.s .n (O.ix r.length rfl rfl Try.underlying22 ty50 (by omega) (v := ((limbs (nval l)).getD r.length 0)) (gd 0 (by first | omega | (simp; omega)))) ?_
      refine WP.s .n (OpOk.le (O.ldP rfl ty50) (limb_le _)) ?_
      refine WP.s .n (O.cvt rfl Try.underlying50 Try.underlying62 (c := (((limbs (nval l)).getD r.length 0) : Int)) (wu64 (by omega))) ?_
      refine WP.s .n (O.asg rfl) ?_
      refine WP.nil ?_
      refine QE.next ?_
      refine CW.seq ?_
      refine CW.seq ?_
      refine CW.region ?_
      refine WP.s .n (O.mv rfl) ?_
      refine WP.s .n (O.mv rfl) ?_
      refine WP.s .n (O.add rfl rfl (c := ((r.length : Int) + 0)) (w64 (by omega))) ?_
      refine WP.s .n (O.add rfl rfl (c := (((r.length : Int) + 0) + 1)) (w64 (by omega))) ?_
      refine WP.s .n (O.mv rfl) ?_
      refine WP.s .n (O.lenS rfl Try.underlying22) ?_
      refine WP.s .n (O.lt rfl rfl) ?_
      refine WP.nil ?_
      refine QE.next ?_
      refine CW.condD rfl (fun h_t44 => ?_) (fun h_t44 => ?_)
      · refine CW.region ?_
        refine WP.s .n (O.mv rfl) ?_
        refine WP.s .n (O.mv rfl) ?_
        refine WP.s .n (O.mv rfl) ?_
        refine WP.s .n (O.mv rfl) ?_
        refine WP.s .n (O.add rfl rfl (c := ((r.length : Int) + 0)) (w64 (by omega))) ?_
        refine WP.s .n (O.add rfl rfl (c := (((r.length : Int) + 0) + 1)) (w64 (by omega))) ?_
        refine WP.s .n (O.ix (r.length + 1) rfl rfl Try.underlying22 ty50 (by omega) (v := ((limbs (nval l)).getD (r.length + 1) 0)) (gd 0 (by first | omega | (simp; omega)))) ?_
        refine WP.s .n (OpOk.le (O.ldP rfl ty50) (limb_le _)) ?_
        refine WP.s .n (O.cvt rfl Try.underlying50 Try.underlying62 (c := (((limbs (nval l)).getD (r.length + 1) 0) : Int)) (wu64 (by omega))) ?_
        refine WP.s .n (O.shl rfl rfl (by omega) (c := (((limbs (nval l)).getD (r.length + 1) 0 * 2 ^ 32 : Nat) : Int)) (shlN 32 rfl rfl (by decide) (by omega))) ?_
        refine WP.s .n (O.or rfl rfl (c := (((limbs (nval l)).getD (r.length + 1) 0 * 2 ^ 32 + (limbs (nval l)).getD r.length 0 : Nat) : Int)) (orN' 32 rfl rfl hx (by omega))) ?_
        refine WP.s .n (O.asg rfl) ?_
        refine WP.nil ?_
        refine QE.next ?_
        refine CW.region ?_
        refine WP.s .n (O.mv rfl) ?_
        refine WP.s .n (O.mv rfl) ?_
        refine WP.s .n (O.mv rfl) ?_
        refine WP.s .n (O.mv rfl) ?_
        refine WP.s .n (O.shr rfl rfl (by omega) (c := ((((limbs (nval l)).getD (r.length + 1) 0 * 2 ^ 32 + (limbs (nval l)).getD r.length 0) / 2 ^ n : Nat) : Int)) (shrN n rfl rfl (show n ≤ 64 by omega))) ?_
        refine WP.s .n (O.cvt rfl Try.underlying62 Try.underlying50 (c := ((((limbs (nval l)).getD (r.length + 1) 0 * 2 ^ 32 + (limbs (nval l)).getD r.length 0) / 2 ^ n % 4294967296 : Nat) : Int)) (wr32 rfl)) ?_
        refine WP.s .n (O.ixR (k := kLimb) (xs := (fil (limbs (nval l)).length r)) (n := (r.length : Int)) r.length rfl rfl (mem_at 0 rfl) Try.underlying22 ty50 rfl (by first | omega | (simp; omega))) ?_
        refine WP.t .n (O.stR 0 r.length rfl rfl (Lens.id _) rfl (y0 := ((fil (limbs (nval l)).length r).getD r.length 0)) (gd 0 (by first | omega | (simp; omega))) ty50 rfl (u32_limb (x := (((limbs (nval l)).getD (r.length + 1) 0 * 2 ^ 32 + (limbs (nval l)).getD r.length 0) / 2 ^ n % 4294967296 : Nat)) (by omega))) ?_
        refine WP.nil ?_
        refine QE.blkN ?_
        refine QE.next ?_
        refine CW.region ?_
        refine WP.s .n (O.add rfl rfl (c := ((r.length : Int) + 1)) (w64 (by omega))) ?_
        refine WP.s .n (O.mv rfl) ?_
        refine WP.nil ?_
        exact QE.round (r ++ [((limbs (nval l)).getD (r.length + 1) 0 * 2 ^ 32 + (limbs (nval l)).getD r.length 0) / 2 ^ n % 4294967296]) (by simp; omega) (shrR_s lA hn (by omega) hS) (Imp.cons rfl (Imp.cons rfl (Imp.cons rfl (Imp.cons rfl (Imp.cons rfl (Imp.consLe rfl (is_eq (y := ((r ++ [((limbs (nval l)).getD (r.length + 1) 0 * 2 ^ 32 + (limbs (nval l)).getD r.length 0) / 2 ^ n % 4294967296]).length : Int)) (by first | omega | rfl | simp)) Imp.nil)))))) (OImp.os (.keepLe (OB.row_eq (fil_set (by omega))) .nil))
      · have hy0 := getD_out (l := limbs (nval l)) (i := r.length + 1) (by omega)
        refine ST.told 9 rfl (is_eq (y := (((limbs (nval l)).getD (r.length + 1) 0 * 2 ^ 32 + (limbs (nval l)).getD r.length 0 : Nat) : Int)) (by rw [hy0]; simp)) ?_
        refine CW.skip ?_
        refine QE.next ?_
        refine CW.region ?_
        refine WP.s .n (O.mv rfl) ?_
        refine WP.s .n (O.mv rfl) ?_
        refine WP.s .n (O.mv rfl) ?_
        refine WP.s .n (O.mv rfl) ?_
        refine WP.s .n (O.shr rfl rfl (by omega) (c := ((((limbs (nval l)).getD (r.length + 1) 0 * 2 ^ 32 + (limbs (nval l)).getD r.length 0) / 2 ^ n : Nat) : Int)) (shrN n rfl rfl (show n ≤ 64 by omega))) ?_
        refine WP.s .n (O.cvt rfl Try.underlying62 Try.underlying50 (c := ((((limbs (nval l)).getD (r.length + 1) 0 * 2 ^ 32 + (limbs (nval l)).getD r.length 0) / 2 ^ n % 4294967296 : Nat) : Int)) (wr32 rfl)) ?_
        refine WP.s .n (O.ixR (k := kLimb) (xs := (fil (limbs (nval l)).length r)) (n := (r.length : Int)) r.length rfl rfl (mem_at 0 rfl) Try.underlying22 ty50 rfl (by first | omega | (simp; omega))) ?_
        refine WP.t .n (O.stR 0 r.length rfl rfl (Lens.id _) rfl (y0 := ((fil (limbs (nval l)).length r).getD r.length 0)) (gd 0 (by first | omega | (simp; omega))) ty50 rfl (u32_limb (x := (((limbs (nval l)).getD (r.length + 1) 0 * 2 ^ 32 + (limbs (nval l)).getD r.length 0) / 2 ^ n % 4294967296 : Nat)) (by omega))) ?_
        refine WP.nil ?_
        refine QE.blkN ?_
        refine QE.next ?_
        refine CW.region ?_
        refine WP.s .n (O.add rfl rfl (c := ((r.length : Int) + 1)) (w64 (by omega))) ?_
        refine WP.s .n (O.mv rfl) ?_
        refine WP.nil ?_
        exact QE.round (r ++ [((limbs (nval l)).getD (r.length + 1) 0 * 2 ^ 32 + (limbs (nval l)).getD r.length 0) / 2 ^ n % 4294967296]) (by simp; omega) (shrR_s lA hn (by omega) hS) (Imp.cons rfl (Imp.cons rfl (Imp.cons rfl (Imp.cons rfl (Imp.cons rfl (Imp.consLe rfl (is_eq (y := ((r ++ [((limbs (nval l)).getD (r.length + 1) 0 * 2 ^ 32 + (limbs (nval l)).getD r.length 0) / 2 ^ n % 4294967296]).length : Int)) (by first | omega | rfl | simp)) Imp.nil)))))) (OImp.os (.keepLe (OB.row_eq (fil_set (by omega))) .nil))
    · refine CW.exit ?_
      refine QE.thenE ?_
      refine QE.thenE ?_
      refine QE.blkH ?_
      refine QE.next ?_
      refine CW.seq ?_
      refine ST.obtold 0 rfl (OB.row_eq (ys := r) (fil_full (by omega))) ?_
      refine CW.region ?_
      refine WP.s .n (O.mv rfl) ?_
      refine ST.freeze 0 rfl (.keep (i := 0) rfl (.keep (i := 5) rfl (.keep (i := 6) rfl (.hit (i := 7) rfl (.keep (i := 27) rfl (.keep (i := 28) rfl (.keep (i := 29) rfl (.hit (i := 64) rfl .nil)))))))) ?_
      refine WP.s .n (O.fn fn49 (evs.c rfl evs.nil) (c_nat_trim r)) ?_
      refine WP.s .n (O.asg rfl) ?_
      refine WP.nil ?_
      refine QE.next ?_
      refine CW.ret ?_
      refine ST.told 4 rfl (is_eq (y := (limbs (nval l / 2 ^ n))) (by rw [shrR_end lA (by omega) hS, nval_limbs])) ?_
      exact QE.done (.inl rfl) rfl (ResOk.t rfl ResOk.nil) (OImp.sub (List.nil_sublist _)) ⟨rfl, rfl⟩

end Fw


/- Plain facts on limbs: a long quotient. -/
set_option linter.unusedVariables false
set_option linter.unusedSimpArgs false
set_option exponentiation.threshold 70
namespace Fw
open Go (IntKind)
theorem limbs_len_pos {n : Nat} (h : n ≠ 0) : 1 ≤ (limbs n).length := by rw [limbs_pos h]; simp
theorem limbs_top {n : Nat} (h : n ≠ 0) : (limbs n).getD ((limbs n).length - 1) 0 ≠ 0 := by
  have h1 := limbs_len_pos h
  have h2 := split_at (l := limbs n) (Nat.le_refl _) h1
  rw [List.drop_length, nval_limbs, nval, Nat.mul_zero, Nat.add_zero] at h2
  intro h0
  rw [h0, Nat.mul_zero, Nat.add_zero] at h2
  have h3 := nval_lt ((limbs_lims n).take ((limbs n).length - 1))
  rw [List.length_take, Nat.min_eq_left (Nat.sub_le _ _), ← h2] at h3
  have h4 := limbs_last h
  omega
theorem one_limb {n : Nat} (h : (limbs n).length = 1) : (limbs n).getD 0 0 = n := by
  have h1 := nval_limbs n
  match hl : limbs n, h with
  | [x], _ => rw [hl] at h1; simp [nval] at h1; simpa using h1
/-- by how much the divisor is shifted -/
theorem div_sh {b : Nat} (hb : b ≠ 0) : ∃ s : Nat, (32 : Int) - (bitlen ((limbs b).getD ((limbs b).length - 1) 0) : Int) = s ∧ s < 32 ∧ (limbs (b * 2 ^ s)).length = (limbs b).length := by
  have ht := limbs_top hb
  have hx := getD_lt (limbs_lims b) ((limbs b).length - 1)
  have h1 := @bitlen_le ((limbs b).getD ((limbs b).length - 1) 0) 32 hx
  have h2 : bitlen ((limbs b).getD ((limbs b).length - 1) 0) ≠ 0 := fun h => ht (bitlen_0.1 h)
  refine ⟨32 - bitlen ((limbs b).getD ((limbs b).length - 1) 0), by omega, by omega, ?_⟩
  have hp := limbs_len_pos hb
  have h3 := split_at (l := limbs b) (Nat.le_refl _) hp
  rw [List.drop_length, nval_limbs, nval, Nat.mul_zero, Nat.add_zero] at h3
  have h4 := nval_lt ((limbs_lims b).take ((limbs b).length - 1))
  rw [List.length_take, Nat.min_eq_left (Nat.sub_le _ _)] at h4
  have h5 := lt_bitlen ((limbs b).getD ((limbs b).length - 1) 0)
  generalize hq : bitlen ((limbs b).getD ((limbs b).length - 1) 0) = q at *
  generalize (limbs b).getD ((limbs b).length - 1) 0 = t at *
  apply Nat.le_antisymm
  · apply limbs_len_lt
    have h6 : b < 4294967296 ^ ((limbs b).length - 1) * 2 ^ q := by
      have : 4294967296 ^ ((limbs b).length - 1) * (t + 1) ≤ 4294967296 ^ ((limbs b).length - 1) * 2 ^ q := Nat.mul_le_mul_left _ h5
      rw [Nat.mul_add, Nat.mul_one] at this
      omega
    have h7 : b * 2 ^ (32 - q) < 4294967296 ^ ((limbs b).length - 1) * 2 ^ q * 2 ^ (32 - q) := Nat.mul_lt_mul_of_pos_right h6 (Nat.two_pow_pos _)
    rw [Nat.mul_assoc, ← Nat.pow_add, Nat.add_sub_cancel' h1, show (2 : Nat) ^ 32 = 4294967296 from rfl, ← Nat.pow_succ, show ((limbs b).length - 1).succ = (limbs b).length from by omega] at h7
    exact h7
  · exact limbs_mono (Nat.le_mul_of_pos_right _ (Nat.two_pow_pos _))
theorem take_pad {L : List Nat} {k : Nat} (h : L.length ≤ k) (hk : k ≤ L.length + 2) : ((L ++ [0, 0]).take k).length = k ∧ nval ((L ++ [0, 0]).take k) = nval L := by
  refine ⟨by simp; omega, ?_⟩
  rw [List.take_append, List.take_of_length_le h, nval_append]
  have : nval (([0, 0] : List Nat).take (k - L.length)) = 0 := by
    have : [0, 0] = List.replicate 2 0 := rfl
    rw [this, List.take_replicate, nval_replicate0]
  rw [this]; rfl
/-- a long quotient under way: the dividend's list, the digits, how many are still to come -/
def DivR (D V la lb : Nat) (us qs : List Nat) (k : Nat) : Prop := us.length = la + 1 ∧ Lims us ∧ qs.length = la - lb + 1 ∧ Lims qs ∧ k ≤ la - lb + 1 ∧ nval us + V * (4294967296 ^ k * nval (qs.drop k)) = D ∧ nval (us.drop k) < V
theorem divR_0 {a b s : Nat} {us : List Nat} (hb : b ≠ 0) (hab : b ≤ a) (hu : us.length = (limbs a).length + 1) (lu : Lims us) (hv : nval us = a * 2 ^ s) :
    DivR (a * 2 ^ s) (b * 2 ^ s) (limbs a).length (limbs b).length us (List.replicate ((limbs a).length - (limbs b).length + 1) 0) ((limbs a).length - (limbs b).length + 1) := by
  have hl := limbs_mono hab
  have hp := limbs_len_pos hb
  obtain ⟨K, hK⟩ : ∃ K, K = (limbs a).length - (limbs b).length + 1 := ⟨_, rfl⟩
  rw [← hK]
  refine ⟨hu, lu, by simp [hK], fun x hx => ?_, Nat.le_of_eq hK, ?_, ?_⟩
  · have := (List.mem_replicate.1 hx).2; omega
  · rw [List.drop_of_length_le (by simp), hv]; simp [nval]
  · have h1 := nval_split us K
    rw [hv] at h1
    have h2 := lt_limbs a
    have h3 := limbs_last hb
    have h4 : 4294967296 ^ K * nval (us.drop K) < 4294967296 ^ K * (b * 2 ^ s) := by
      have h5 : a * 2 ^ s < 4294967296 ^ (limbs a).length * 2 ^ s := Nat.mul_lt_mul_of_pos_right h2 (Nat.two_pow_pos _)
      have h6 : 4294967296 ^ (limbs a).length * 2 ^ s ≤ 4294967296 ^ K * (b * 2 ^ s) := by
        rw [← Nat.mul_assoc]
        apply Nat.mul_le_mul_right
        have h7 : 4294967296 ^ (limbs a).length = 4294967296 ^ K * 4294967296 ^ ((limbs b).length - 1) := by
          rw [← Nat.pow_add]; congr 1; omega
        rw [h7]
        exact Nat.mul_le_mul_left _ h3
      omega
    exact Nat.lt_of_mul_lt_mul_left h4
theorem divR_win {D V la lb : Nat} {us qs : List Nat} {k : Nat} (hlb : lb = (limbs V).length) (hl : lb ≤ la) (hk : 0 < k) (h : DivR D V la lb us qs k) :
    nval ((us.drop (k - 1)).take (lb + 1)) < V * 4294967296 ∧ nval (us.drop (k - 1)) = nval ((us.drop (k - 1)).take (lb + 1)) ∧ nval (us.drop (k - 1 + (lb + 1))) = 0 := by
  obtain ⟨h1, h2, h3, h4, h5, h6, h7⟩ := h
  have e1 := nval_drop us (k - 1)
  rw [show k - 1 + 1 = k from by omega] at e1
  have e2 := getD_lt h2 (k - 1)
  have e3 : nval (us.drop (k - 1)) < V * 4294967296 := by omega
  have e4 := nval_split (us.drop (k - 1)) (lb + 1)
  rw [List.drop_drop] at e4
  have e5 := lt_limbs V
  rw [← hlb] at e5
  have e6 : nval (us.drop (k - 1 + (lb + 1))) = 0 := by
    rcases Nat.eq_zero_or_pos (nval (us.drop (k - 1 + (lb + 1)))) with h | h
    · exact h
    · exfalso
      have : 4294967296 ^ (lb + 1) * 1 ≤ 4294967296 ^ (lb + 1) * nval (us.drop (k - 1 + (lb + 1))) := Nat.mul_le_mul_left _ h
      rw [Nat.mul_one] at this
      have h8 : V * 4294967296 < 4294967296 ^ (lb + 1) := by
        rw [Nat.pow_succ]; exact Nat.mul_lt_mul_of_pos_right e5 (by decide)
      omega
  rw [e6, Nat.mul_zero, Nat.add_zero] at e4
  exact ⟨by rw [← e4]; exact e3, e4, e6⟩
theorem divR_q {D V la lb : Nat} {us qs : List Nat} {k : Nat} (hlb : lb = (limbs V).length) (hl : lb ≤ la) (hk : 0 < k) (h : DivR D V la lb us qs k) : nval ((us.drop (k - 1)).take (lb + 1)) / V < 4294967296 := by
  have g1 := (divR_win hlb hl hk h).1
  have hVp : 0 < V := by have := h.2.2.2.2.2.2; omega
  rw [Nat.div_lt_iff_lt_mul hVp, Nat.mul_comm]; exact g1
theorem divR_s {D V la lb : Nat} {us qs w : List Nat} {k : Nat} (hlb : lb = (limbs V).length) (hl : lb ≤ la) (hk : 0 < k) (h : DivR D V la lb us qs k) (hw : w.length = lb + 1) (lw : Lims w) (hwv : nval w = nval ((us.drop (k - 1)).take (lb + 1)) % V) :
    DivR D V la lb (us.take (k - 1) ++ w ++ us.drop (k - 1 + (lb + 1))) (qs.set (k - 1) (nval ((us.drop (k - 1)).take (lb + 1)) / V)) (k - 1) := by
  obtain ⟨g1, g2, g3⟩ := divR_win hlb hl hk h
  obtain ⟨h1, h2, h3, h4, h5, h6, h7⟩ := h
  have hVp : 0 < V := by omega
  have hq : nval ((us.drop (k - 1)).take (lb + 1)) / V < 4294967296 := by
    rw [Nat.div_lt_iff_lt_mul hVp, Nat.mul_comm]; exact g1
  generalize hU : nval ((us.drop (k - 1)).take (lb + 1)) = U at *
  have htl : (us.take (k - 1)).length = k - 1 := by simp; omega
  have hnv : nval (us.take (k - 1) ++ w ++ us.drop (k - 1 + (lb + 1))) = nval (us.take (k - 1)) + 4294967296 ^ (k - 1) * (U % V) := by
    rw [List.append_assoc, nval_append, nval_append, g3, Nat.mul_zero, Nat.add_zero, hwv, htl]
  have hus := nval_split us (k - 1)
  rw [g2] at hus
  refine ⟨?_, ?_, by simpa using h3, h4.set hq, by omega, ?_, ?_⟩
  · simp [htl, hw]; omega
  · intro x hx
    rcases List.mem_append.1 hx with hx | hx
    · rcases List.mem_append.1 hx with hx | hx
      · exact h2.take _ x hx
      · exact lw x hx
    · exact h2.drop _ x hx
  · rw [hnv, drop_set (by omega), nval, show k - 1 + 1 = k from by omega, ← h6, hus]
    have e1 := Nat.div_add_mod U V
    have e2 : 4294967296 ^ (k - 1) * (4294967296 * nval (qs.drop k)) = 4294967296 ^ k * nval (qs.drop k) := by
      rw [← Nat.mul_assoc, ← Nat.pow_succ, show (k - 1).succ = k from by omega]
    rw [Nat.mul_add (4294967296 ^ (k - 1)) (U / V), e2, Nat.mul_add V]
    have e3 : V * (4294967296 ^ (k - 1) * (U / V)) + 4294967296 ^ (k - 1) * (U % V) = 4294967296 ^ (k - 1) * U := by
      rw [Nat.mul_left_comm, ← Nat.mul_add, e1]
    omega
  · rw [List.append_assoc, List.drop_append_of_le_length (by omega), List.drop_of_length_le (by omega), List.nil_append, nval_append, g3, Nat.mul_zero, Nat.add_zero, hwv]
    exact Nat.mod_lt _ hVp
theorem divR_end {a b s la lb : Nat} {us qs : List Nat} {k : Nat} (hk : k = 0) (h : DivR (a * 2 ^ s) (b * 2 ^ s) la lb us qs k) : nval qs = a / b ∧ nval us / 2 ^ s = a % b := by
  obtain ⟨h1, h2, h3, h4, h5, h6, h7⟩ := h
  subst hk
  simp only [List.drop_zero, Nat.pow_zero, Nat.one_mul] at h6 h7
  have hp := Nat.two_pow_pos s
  have e1 : nval qs = a * 2 ^ s / (b * 2 ^ s) := by
    rw [← h6, Nat.add_mul_div_left _ _ (by omega), Nat.div_eq_of_lt h7, Nat.zero_add]
  have e2 : nval us = a * 2 ^ s % (b * 2 ^ s) := by
    rw [← h6, Nat.add_mul_mod_self_left, Nat.mod_eq_of_lt h7]
  refine ⟨?_, ?_⟩
  · rw [e1, Nat.mul_div_mul_right _ _ hp]
  · rw [e2, Nat.mul_mod_mul_right, Nat.mul_div_cancel _ hp]
end Fw


/- What Div and Gcd of layer 1 answer. -/
set_option linter.unusedVariables false
set_option linter.unusedSimpArgs false
set_option exponentiation.threshold 70
namespace Fw
open Go Go.Proofs

set_option maxRecDepth 20000 in
set_option maxHeartbeats 1000000 in
theorem c_nat_Div (a b : List Nat) (hA : a.length ≤ 549755813000) (hB : b.length ≤ 549755813000) : Fn Try.prog 46 [kN.is a, kN.is b] (VP.tup [kN.is (limbs (nval a / nval b)), kN.is (if nval b = 0 then [] else limbs (nval a % nval b)), (kInt .i64).is (if nval b = 0 then 11 else 0)]) := by
  refine Con.enter Try.func46 rfl rfl fun m w => ?_
  refine ST.fact (i := 0) rfl kN_lims fun la => ?_
  refine ST.fact (i := 1) rfl kN_lims fun lb => ?_
  have hla := limbs_len_le la
  have hlb := limbs_len_le lb
  have lA := limbs_lims (nval a)
  have lB := limbs_lims (nval b)
  refine CW.seq ?_
  refine CW.region ?_
  refine WP.s .n (O.asg rfl) ?_
  refine WP.s .n (O.asg rfl) ?_
  refine WP.s .n (O.asg rfl) ?_
  refine WP.nil ?_
  refine QE.next ?_
  refine CW.seq ?_
  refine CW.region ?_
  refine WP.s .n (O.mv rfl) ?_
  refine WP.s .n (O.fn fn49 (evs.c rfl evs.nil) (c_nat_trim a)) ?_
  refine WP.s .n (O.mv rfl) ?_
  refine WP.s .n (O.fn fn49 (evs.c rfl evs.nil) (c_nat_trim b)) ?_
  refine WP.s .n (O.asg rfl) ?_
  refine WP.s .n (O.asg rfl) ?_
  refine WP.nil ?_
  refine QE.next ?_
  refine CW.seq ?_
  refine CW.block ?_
  refine CW.seq ?_
  refine CW.region ?_
  refine WP.s .n (O.mv rfl) ?_
  refine WP.s .n (O.lenS rfl Try.underlying22) ?_
  refine WP.s .n (O.eq rfl rfl) ?_
  refine WP.s .n (O.asg rfl) ?_
  refine WP.nil ?_
  refine QE.next ?_
  refine CW.condD rfl (fun h_t18 => ?_) (fun h_t18 => ?_)
  · have hb0 : nval b = 0 := limbs0 (by omega)
    refine CW.seq ?_
    refine CW.region ?_
    refine WP.s .n (O.asg rfl) ?_
    refine WP.s .n (O.asg rfl) ?_
    refine WP.s .n (O.asg rfl) ?_
    refine WP.nil ?_
    refine QE.next ?_
    refine CW.ret ?_
    refine QE.blkR ?_
    refine QE.thenR ?_
    refine ST.told (q := kN.is ([] : List Nat)) 4 rfl (nil_le _) ?_
    refine ST.told (q := kN.is ([] : List Nat)) 5 rfl (nil_le _) ?_
    refine ST.told 4 rfl (is_eq (y := (limbs (nval a / nval b))) (by rw [hb0, Nat.div_zero, limbs_zero])) ?_
    refine ST.told 5 rfl (is_eq (y := (if nval b = 0 then [] else limbs (nval a % nval b))) (by rw [if_pos hb0])) ?_
    refine ST.told 6 rfl (is_eq (y := (if nval b = 0 then 11 else 0)) (by rw [if_pos hb0])) ?_
    exact QE.done (.inl rfl) rfl (ResOk.t rfl (ResOk.t rfl (ResOk.t rfl ResOk.nil))) (OImp.sub (List.nil_sublist _)) ⟨rfl, rfl⟩
  · have hb0 : nval b ≠ 0 := fun h => by rw [h, limbs_zero] at h_t18; exact h_t18 rfl
    have hlbp := limbs_len_pos hb0
    refine CW.seq ?_
    refine CW.region ?_
    refine WP.s .n (O.mv rfl) ?_
    refine WP.s .n (O.mv rfl) ?_
    refine WP.s .n (O.fn fn35 (evs.c rfl (evs.c rfl evs.nil)) (c_nat_Cmp (limbs (nval a)) (limbs (nval b)))) ?_
    refine WP.s .n (O.lt rfl rfl) ?_
    refine WP.s .n (O.asg rfl) ?_
    refine WP.nil ?_
    refine QE.next ?_
    refine CW.condD rfl (fun h_t22 => ?_) (fun h_t22 => ?_)
    · refine CW.seq ?_
      refine CW.region ?_
      refine WP.s .n (O.mv rfl) ?_
      refine WP.s .n (O.fn fn64 (evs.c rfl evs.nil) (c_nat_Norm (limbs (nval a)))) ?_
      refine WP.s .n (O.asg rfl) ?_
      refine WP.s .n (O.asg rfl) ?_
      refine WP.s .n (O.asg rfl) ?_
      refine WP.nil ?_
      refine QE.next ?_
      refine CW.ret ?_
      refine QE.blkR ?_
      refine QE.thenR ?_
      have hlt : nval a < nval b := by have := cmpI_lt h_t22; rwa [nval_limbs, nval_limbs] at this
      refine ST.told (q := kN.is ([] : List Nat)) 4 rfl (nil_le _) ?_
      refine ST.told 4 rfl (is_eq (y := (limbs (nval a / nval b))) (by rw [Nat.div_eq_of_lt hlt, limbs_zero])) ?_
      refine ST.told 5 rfl (is_eq (y := (if nval b = 0 then [] else limbs (nval a % nval b))) (by rw [if_neg hb0, nval_limbs, Nat.mod_eq_of_lt hlt])) ?_
      refine ST.told 6 rfl (is_eq (y := (if nval b = 0 then 11 else 0)) (by rw [if_neg hb0])) ?_
      exact QE.done (.inl rfl) rfl (ResOk.t rfl (ResOk.t rfl (ResOk.t rfl ResOk.nil))) (OImp.sub (List.nil_sublist _)) ⟨rfl, rfl⟩
    · have hab : nval b ≤ nval a := by have := cmpI_ge h_t22; rwa [nval_limbs, nval_limbs] at this
      have hll := limbs_mono hab
      refine CW.seq ?_
      refine CW.region ?_
      refine WP.s .n (O.mv rfl) ?_
      refine WP.s .n (O.lenS rfl Try.underlying22) ?_
      refine WP.s .n (O.eq rfl rfl) ?_
      refine WP.s .n (O.asg rfl) ?_
      refine WP.nil ?_
      refine QE.next ?_
      refine CW.condD rfl (fun h_t29 => ?_) (fun h_t29 => ?_)
      · refine CW.seq ?_
        have hx0 := getD_lt lB 0
        refine CW.region ?_
        refine WP.s .n (O.mv rfl) ?_
        refine WP.s .n (O.mv rfl) ?_
        refine WP.s .n (O.ix 0 rfl rfl Try.underlying22 ty50 rfl (v := ((limbs (nval b)).getD 0 0)) (gd 0 (by first | omega | (simp; omega)))) ?_
        refine WP.s .n (OpOk.le (O.ldP rfl ty50) (limb_le _)) ?_
        refine WP.s .n (O.fn fn65 (evs.c rfl (evs.l rfl (u32_limb (x := ((limbs (nval b)).getD 0 0)) (by omega)) evs.nil)) (c_nat_short (limbs (nval a)) ((limbs (nval b)).getD 0 0) (by rw [one_limb (by omega)]; exact hb0))) ?_
        refine WP.s .n (O.mv rfl) ?_
        refine WP.s .n (O.ext rfl rfl) ?_
        refine WP.s .n (O.ext rfl rfl) ?_
        refine WP.s .n (O.asg rfl) ?_
        refine WP.s .n (O.asg rfl) ?_
        refine WP.nil ?_
        refine QE.next ?_
        refine CW.seq ?_
        have hm : nval (limbs (nval a)) % (limbs (nval b)).getD 0 0 < 4294967296 := Nat.lt_of_lt_of_le (Nat.mod_lt _ (by rw [one_limb (by omega)]; omega)) (Nat.le_of_lt hx0)
        refine CW.region ?_
        refine WP.s .n (O.mv rfl) ?_
        refine WP.s .n (O.mv rfl) ?_
        refine WP.s .n (O.bs Try.underlying22 el50_limb (evl.l rfl (u32_limb (x := (nval (limbs (nval a)) % ((limbs (nval b)).getD 0 0) : Nat)) (by omega)) evl.n) rfl (by decide)) ?_
        refine WP.s .n (O.fn fn49 (evs.c rfl evs.nil) (c_nat_trim [(nval (limbs (nval a)) % ((limbs (nval b)).getD 0 0) : Nat)])) ?_
        refine WP.s .n (O.asg rfl) ?_
        refine WP.s .n (O.asg rfl) ?_
        refine WP.s .n (O.asg rfl) ?_
        refine WP.nil ?_
        refine QE.next ?_
        refine CW.ret ?_
        refine QE.blkR ?_
        refine QE.thenR ?_
        refine ST.told 4 rfl (is_eq (y := (limbs (nval a / nval b))) (by rw [one_limb (by omega), nval_limbs])) ?_
        refine ST.told 5 rfl (is_eq (y := (if nval b = 0 then [] else limbs (nval a % nval b))) (by rw [if_neg hb0, one_limb (by omega), nval_limbs]; simp [nval])) ?_
        refine ST.told 6 rfl (is_eq (y := (if nval b = 0 then 11 else 0)) (by rw [if_neg hb0])) ?_
        exact QE.done (.inl rfl) rfl (ResOk.t rfl (ResOk.t rfl (ResOk.t rfl ResOk.nil))) (OImp.sub (List.nil_sublist _)) ⟨rfl, rfl⟩
      · refine CW.skip ?_
        refine QE.blkN ?_
        refine QE.next ?_
        refine CW.seq ?_
        have hx9 := getD_lt lB ((limbs (nval b)).length - 1)
        refine CW.region ?_
        refine WP.s .n (O.mv rfl) ?_
        refine WP.s .n (O.mv rfl) ?_
        refine WP.s .n (O.lenS rfl Try.underlying22) ?_
        refine WP.s .n (O.sub rfl rfl (c := (((limbs (nval b)).length : Int) - 1)) (w64 (by omega))) ?_
        refine WP.s .n (O.ix ((limbs (nval b)).length - 1) rfl rfl Try.underlying22 ty50 (by omega) (v := ((limbs (nval b)).getD ((limbs (nval b)).length - 1) 0)) (gd 0 (by first | omega | (simp; omega)))) ?_
        refine WP.s .n (OpOk.le (O.ldP rfl ty50) (limb_le _)) ?_
        refine WP.s .n (O.fn fn66 (evs.l rfl (u32_limb (x := ((limbs (nval b)).getD ((limbs (nval b)).length - 1) 0)) (by omega)) evs.nil) (c_bits_LeadingZeros32 ((limbs (nval b)).getD ((limbs (nval b)).length - 1) 0))) ?_
        refine WP.s .n (O.asg rfl) ?_
        refine WP.nil ?_
        refine QE.next ?_
        refine CW.seq ?_
        obtain ⟨s, hsv, hs, hvl⟩ := div_sh hb0
        refine ST.told 9 rfl (is_eq (y := (s : Int)) hsv) ?_
        have hV : nval b * 2 ^ s ≠ 0 := Nat.mul_ne_zero hb0 (Nat.ne_of_gt (Nat.two_pow_pos s))
        refine CW.region ?_
        refine WP.s .n (O.mv rfl) ?_
        refine WP.s .n (O.mv rfl) ?_
        refine WP.call (Li := []) (L := []) .n fn67 (evs.c rfl (evs.c rfl evs.nil)) (c_nat_shl (limbs (nval b)) s hs (by omega)) fun p_ Lo_ hp_ => ?_
        obtain ⟨v1, rfl, rfl, hx_t54⟩ := hp_
        refine WP.s .n (O.asg rfl) ?_
        refine WP.nil ?_
        refine QE.next ?_
        refine CW.seq ?_
        refine ST.obtold 0 rfl (OB.row_eq (ys := (limbs (nval b * 2 ^ s))) (by rw [nval_limbs])) ?_
        refine ST.freeze 0 rfl (.keep (i := 0) rfl (.keep (i := 1) rfl (.keep (i := 4) rfl (.keep (i := 5) rfl (.keep (i := 6) rfl (.keep (i := 9) rfl (.hit (i := 10) rfl (.keep (i := 14) rfl (.keep (i := 15) rfl (.keep (i := 16) rfl (.keep (i := 17) rfl (.keep (i := 18) rfl (.keep (i := 19) rfl (.keep (i := 20) rfl (.keep (i := 21) rfl (.keep (i := 22) rfl (.keep (i := 23) rfl (.keep (i := 24) rfl (.keep (i := 25) rfl (.keep (i := 26) rfl (.keep (i := 29) rfl (.keep (i := 30) rfl (.keep (i := 31) rfl (.keep (i := 32) rfl (.keep (i := 45) rfl (.keep (i := 46) rfl (.keep (i := 47) rfl (.keep (i := 48) rfl (.keep (i := 49) rfl (.keep (i := 50) rfl (.keep (i := 51) rfl (.keep (i := 52) rfl (.keep (i := 53) rfl (.hit (i := 54) rfl .nil)))))))))))))))))))))))))))))))))) ?_
        have hul0 : (limbs (nval a * 2 ^ s)).length ≤ (limbs (nval a)).length + 1 := limbs_len_lt (by rw [Nat.pow_succ]; exact Nat.mul_lt_mul_of_lt_of_le (lt_limbs _) (Nat.le_trans (pow32 hs).2.1 (by decide)) (by decide))
        have hul1 : (limbs (nval a)).length ≤ (limbs (nval a * 2 ^ s)).length := limbs_mono (Nat.le_mul_of_pos_right _ (Nat.two_pow_pos s))
        refine CW.region ?_
        refine WP.s .n (O.mv rfl) ?_
        refine WP.s .n (O.mv rfl) ?_
        refine WP.call (Li := []) (L := []) .n fn67 (evs.c rfl (evs.c rfl evs.nil)) (c_nat_shl (limbs (nval a)) s hs (by omega)) fun p_ Lo_ hp_ => ?_
        obtain ⟨v2, rfl, rfl, hx_t57⟩ := hp_
        refine WP.s .n (O.bs Try.underlying22 el50_limb (evl.l rfl (u32_limb (x := 0) (by omega)) (evl.l rfl (u32_limb (x := 0) (by omega)) evl.n)) rfl (by decide)) ?_
        refine ST.obtold 0 rfl (OB.row_eq (ys := (limbs (nval a * 2 ^ s))) (by rw [nval_limbs])) ?_
        refine WP.ap 0 .n rfl rfl rfl (VP.le_refl _) Try.underlying22 el50_limb (by simp; omega) fun v3 => ?_
        refine WP.s .n (O.mv rfl) ?_
        refine WP.s .n (O.lenS rfl Try.underlying22) ?_
        refine WP.s .n (O.add rfl rfl (c := (((limbs (nval a)).length : Int) + 1)) (w64 (by omega))) ?_
        refine WP.slR 0 ((limbs (nval a)).length + 1) .n rfl rfl rfl Try.underlying22 ty50 (by omega) (by first | omega | (simp; omega)) fun v4 => ?_
        refine WP.s .n (O.asg rfl) ?_
        refine WP.nil ?_
        refine QE.next ?_
        refine CW.seq ?_
        obtain ⟨us0, hus0⟩ : ∃ us0, us0 = (limbs (nval a * 2 ^ s) ++ [0, 0]).take ((limbs (nval a)).length + 1) := ⟨_, rfl⟩
        refine ST.obtold 0 rfl (OB.row_eq (ys := us0) (by rw [hus0])) ?_
        have hp1 := take_pad (L := limbs (nval a * 2 ^ s)) (k := (limbs (nval a)).length + 1) hul0 (by omega)
        rw [← hus0] at hp1
        have lus : Lims us0 := by rw [hus0]; exact Lims.take (fun x hx => (List.mem_append.1 hx).elim (limbs_lims _ x) (fun h => by simp at h; omega)) _
        refine CW.region ?_
        refine WP.s .n (O.mv rfl) ?_
        refine WP.s .n (O.lenS rfl Try.underlying22) ?_
        refine WP.s .n (O.mv rfl) ?_
        refine WP.s .n (O.lenS rfl Try.underlying22) ?_
        refine WP.s .n (O.sub rfl rfl (c := (((limbs (nval a)).length : Int) - ((limbs (nval b)).length : Int))) (w64 (by omega))) ?_
        refine WP.s .n (O.add rfl rfl (c := ((((limbs (nval a)).length : Int) - ((limbs (nval b)).length : Int)) + 1)) (w64 (by omega))) ?_
        refine WP.mk ((limbs (nval a)).length - (limbs (nval b)).length + 1) .n rfl rfl (by omega) (by first | omega | (simp; omega)) Try.underlying22 el50_limb z50_limb fun v5 => ?_
        refine WP.s .n (O.asg rfl) ?_
        refine WP.nil ?_
        refine QE.next ?_
        refine CW.seq ?_
        refine CW.seq ?_
        refine CW.region ?_
        refine WP.s .n (O.mv rfl) ?_
        refine WP.s .n (O.lenS rfl Try.underlying22) ?_
        refine WP.s .n (O.mv rfl) ?_
        refine WP.s .n (O.lenS rfl Try.underlying22) ?_
        refine WP.s .n (O.sub rfl rfl (c := (((limbs (nval a)).length : Int) - ((limbs (nval b)).length : Int))) (w64 (by omega))) ?_
        refine WP.s .n (O.asg rfl) ?_
        refine WP.nil ?_
        refine QE.next ?_
        refine CW.block ?_
        refine CW.loop5 (fun (us : List Nat) (qs : List Nat) (k : Nat) (vq : Value) (vu : Value) => DivR (nval a * 2 ^ s) (nval b * 2 ^ s) (limbs (nval a)).length (limbs (nval b)).length us qs k) (fun (us : List Nat) (qs : List Nat) (k : Nat) (vq : Value) (vu : Value) => [(0, kN.is (limbs (nval a))), (1, kN.is (limbs (nval b))), (9, (kInt .i64).is (s : Int)), (10, kN.is (limbs (nval b * 2 ^ s))), (11, VP.ex vu), (12, VP.ex vq), (13, (kInt .i64).is ((k : Int) - 1))]) (fun (us : List Nat) (qs : List Nat) (k : Nat) (vq : Value) (vu : Value) => [OB.row vq 50 kLimb qs, OB.row vu 50 kLimb us]) (fun (us : List Nat) (qs : List Nat) (k : Nat) (vq : Value) (vu : Value) => k) us0 (List.replicate ((limbs (nval a)).length - (limbs (nval b)).length + 1) 0) ((limbs (nval a)).length - (limbs (nval b)).length + 1) v5 v4 (divR_0 hb0 hab hp1.1 lus (by rw [hp1.2, nval_limbs])) (Imp.cons rfl (Imp.cons rfl (Imp.cons rfl (Imp.cons rfl (Imp.cons rfl (Imp.cons rfl (Imp.consLe rfl (is_eq (y := ((((limbs (nval a)).length - (limbs (nval b)).length + 1) : Nat) : Int) - 1) (by first | omega | rfl | simp)) Imp.nil))))))) (OImp.refl _) ?_
        intro us qs k vq vu hD
        have hul := hD.1
        have hql := hD.2.2.1
        have hk := hD.2.2.2.2.1
        refine CW.seq ?_
        refine CW.seq ?_
        refine CW.region ?_
        refine WP.s .n (O.mv rfl) ?_
        refine WP.s .n (O.ge rfl rfl) ?_
        refine WP.nil ?_
        refine QE.next ?_
        refine CW.condD rfl (fun h_t77 => ?_) (fun h_t77 => ?_)
        · refine CW.skip ?_
          refine QE.next ?_
          refine CW.seq ?_
          refine CW.block ?_
          refine CW.region ?_
          refine WP.s .n (O.mv rfl) ?_
          refine WP.s .n (O.mv rfl) ?_
          refine WP.s .n (O.mv rfl) ?_
          refine WP.s .n (O.mv rfl) ?_
          refine WP.s .n (O.mv rfl) ?_
          refine WP.s .n (O.mv rfl) ?_
          refine WP.s .n (O.lenS rfl Try.underlying22) ?_
          refine WP.s .n (O.add rfl rfl (c := (((k : Int) - 1) + ((limbs (nval b * 2 ^ s)).length : Int))) (w64 (by omega))) ?_
          refine WP.s .n (O.add rfl rfl (c := ((((k : Int) - 1) + ((limbs (nval b * 2 ^ s)).length : Int)) + 1)) (w64 (by omega))) ?_
          refine WP.s .n (O.slW (k - 1) (k - 1 + ((limbs (nval b * 2 ^ s)).length + 1)) rfl rfl rfl (mem_at 1 rfl) Try.underlying22 ty50 (by omega) (by omega) (by first | omega | (simp; omega)) (by first | omega | (simp; omega))) ?_
          refine WP.s .n (O.mv rfl) ?_
          refine ST.oimp (OImp.ix [1, 0] (by decide) rfl) ?_
          refine WP.call (Li := [OB.row vu 50 kLimb us]) (L := [OB.row vq 50 kLimb qs]) .n fn68 (evs.l rfl (win_le (by first | omega | simp [kLimb]) (by omega)) (evs.c rfl evs.nil)) (c_nat_digit vu us (limbs (nval b * 2 ^ s)) (k - 1) (by omega) (by omega) (limbs_top hV) (by rw [nval_limbs, hvl]; exact (divR_win (lb := (limbs (nval b)).length) hvl.symm (by omega) (by omega) hD).1)) fun p_ Lo_ hp_ => ?_
          obtain ⟨w, rfl, rfl, hw⟩ := hp_
          have hqd : nval ((us.drop (k - 1)).take ((limbs (nval b * 2 ^ s)).length + 1)) / nval (limbs (nval b * 2 ^ s)) < 4294967296 := by rw [nval_limbs, hvl]; exact divR_q (lb := (limbs (nval b)).length) hvl.symm (by omega) (by omega) hD
          refine WP.s .n (O.ixR (k := kLimb) (xs := qs) (n := (k : Int) - 1) (k - 1) rfl rfl (mem_at 1 rfl) Try.underlying22 ty50 (by omega) (by first | omega | (simp; omega))) ?_
          refine WP.t .n (O.stR 1 (k - 1) rfl rfl (Lens.id _) rfl (y0 := (qs.getD (k - 1) 0)) (gd 0 (by first | omega | (simp; omega))) ty50 rfl (u32_limb (x := (nval ((us.drop (k - 1)).take ((limbs (nval b * 2 ^ s)).length + 1)) / nval (limbs (nval b * 2 ^ s)) : Nat)) (by omega))) ?_
          refine WP.nil ?_
          refine QE.blkN ?_
          refine QE.next ?_
          refine CW.region ?_
          refine WP.s .n (O.mv rfl) ?_
          refine WP.s .n (O.sub rfl rfl (c := (((k : Int) - 1) - 1)) (w64 (by omega))) ?_
          refine WP.s .n (O.asg rfl) ?_
          refine WP.nil ?_
          refine ST.oimp (OImp.ix [1, 0] (by decide) rfl) ?_
          exact QE.round5 (us.take (k - 1) ++ w ++ us.drop (k - 1 + ((limbs (nval b * 2 ^ s)).length + 1))) (qs.set (k - 1) (nval ((us.drop (k - 1)).take ((limbs (nval b * 2 ^ s)).length + 1)) / nval (limbs (nval b * 2 ^ s)))) (k - 1) vq vu (by omega) (by rw [hvl] at hw ⊢; rw [nval_limbs] at hw ⊢; exact divR_s (lb := (limbs (nval b)).length) hvl.symm (by omega) (by omega) hD hw.1 hw.2.1 hw.2.2) (Imp.cons rfl (Imp.cons rfl (Imp.cons rfl (Imp.cons rfl (Imp.cons rfl (Imp.cons rfl (Imp.consLe rfl (is_eq (y := (((k - 1) : Nat) : Int) - 1) (by first | omega | rfl | simp)) Imp.nil))))))) (OImp.os (OS.keepLe (OB.row_eq (by first | omega | rfl | simp)) (OS.keepLe (OB.row_eq (by first | omega | rfl | simp)) OS.nil)))
        · refine CW.exit ?_
          refine QE.thenE ?_
          refine QE.thenE ?_
          refine QE.blkH ?_
          refine QE.next ?_
          refine CW.seq ?_
          refine CW.region ?_
          refine WP.s .n (O.mv rfl) ?_
          refine ST.freeze 0 rfl (.keep (i := 0) rfl (.keep (i := 1) rfl (.keep (i := 9) rfl (.keep (i := 10) rfl (.keep (i := 11) rfl (.hit (i := 12) rfl (.keep (i := 13) rfl (.keep (i := 76) rfl (.keep (i := 77) rfl (.hit (i := 93) rfl .nil)))))))))) ?_
          refine WP.s .n (O.fn fn49 (evs.c rfl evs.nil) (c_nat_trim qs)) ?_
          refine WP.s .n (O.mv rfl) ?_
          refine ST.freeze 0 rfl (.keep (i := 0) rfl (.keep (i := 1) rfl (.keep (i := 9) rfl (.keep (i := 10) rfl (.hit (i := 11) rfl (.keep (i := 12) rfl (.keep (i := 13) rfl (.keep (i := 76) rfl (.keep (i := 77) rfl (.keep (i := 93) rfl (.keep (i := 94) rfl (.hit (i := 95) rfl .nil)))))))))))) ?_
          refine WP.s .n (O.fn fn49 (evs.c rfl evs.nil) (c_nat_trim us)) ?_
          refine WP.s .n (O.mv rfl) ?_
          refine WP.s .n (O.fn fn69 (evs.c rfl (evs.c rfl evs.nil)) (c_nat_shr (limbs (nval us)) s hs)) ?_
          refine WP.s .n (O.asg rfl) ?_
          refine WP.s .n (O.asg rfl) ?_
          refine WP.s .n (O.asg rfl) ?_
          refine WP.nil ?_
          refine QE.next ?_
          refine CW.ret ?_
          have hend := divR_end (by omega) hD
          refine ST.told 4 rfl (is_eq (y := (limbs (nval a / nval b))) (by rw [hend.1])) ?_
          refine ST.told 5 rfl (is_eq (y := (if nval b = 0 then [] else limbs (nval a % nval b))) (by rw [if_neg hb0, nval_limbs, hend.2])) ?_
          refine ST.told 6 rfl (is_eq (y := (if nval b = 0 then 11 else 0)) (by rw [if_neg hb0])) ?_
          exact QE.done (.inl rfl) rfl (ResOk.t rfl (ResOk.t rfl (ResOk.t rfl ResOk.nil))) (OImp.sub (List.nil_sublist _)) ⟨rfl, rfl⟩

end Fw


/- What more functions of layer 2 answer. -/
set_option linter.unusedVariables false
set_option linter.unusedSimpArgs false
set_option exponentiation.threshold 70
namespace Fw
open Go Go.Proofs

set_option maxRecDepth 20000 in
set_option maxHeartbeats 1000000 in
theorem c_zint_Of (n : Int) : Fn Try.prog 11 [kI64.is n] (kC.is n) := by
  refine Con.enter Try.func11 rfl rfl fun m w => ?_
  refine ST.fact (i := 0) rfl int_rng fun hn => ?_
  refine ST.told (q := (kInt .i64).is n) 0 rfl (i64_le _) ?_
  refine CW.seq ?_
  refine CW.region ?_
  refine WP.al .n z24_C fun b1 => ?_
  refine WP.nil ?_
  refine QE.next ?_
  refine CW.seq ?_
  refine CW.region ?_
  refine WP.s .n (O.mv rfl) ?_
  refine WP.s .n (O.cvt rfl Try.underlying2 Try.underlying62 rfl) ?_
  refine WP.s .n (O.asg rfl) ?_
  refine WP.nil ?_
  refine QE.next ?_
  refine CW.seq ?_
  refine CW.seq ?_
  refine CW.region ?_
  refine WP.s .n (O.mv rfl) ?_
  refine WP.s .n (O.lt rfl rfl) ?_
  refine WP.nil ?_
  refine QE.next ?_
  refine CW.condD rfl (fun h_t7 => ?_) (fun h_t7 => ?_)
  · refine CW.region ?_
    refine WP.s .n (O.mv rfl) ?_
    refine WP.s .n (O.neg rfl (c := ((n.natAbs : Nat) : Int)) (of_neg h_t7 hn.1)) ?_
    refine WP.s .n (O.asg rfl) ?_
    refine WP.nil ?_
    refine QE.next ?_
    refine CW.seq ?_
    refine CW.region ?_
    refine WP.s .n (O.mv rfl) ?_
    refine WP.s .n (O.lt rfl rfl) ?_
    refine WP.s .n (O.mv rfl) ?_
    refine WP.s .n (O.cvt rfl Try.underlying62 Try.underlying50 (c := ((n.natAbs % 4294967296 : Nat) : Int)) (wr32 rfl)) ?_
    refine WP.s .n (O.mv rfl) ?_
    refine WP.s .n (O.shr rfl rfl (by omega) (c := ((n.natAbs / 2 ^ 32 : Nat) : Int)) (shrN 32 rfl rfl (by decide))) ?_
    refine WP.s .n (O.cvt rfl Try.underlying62 Try.underlying50 (c := ((n.natAbs / 2 ^ 32 : Nat) : Int)) (wrs32 (by omega))) ?_
    refine WP.s .n (O.bs Try.underlying22 el50_limb (evl.l rfl (u32_limb (x := (n.natAbs % 4294967296 : Nat)) (by omega)) (evl.l rfl (u32_limb (x := (n.natAbs / 2 ^ 32 : Nat)) (by omega)) evl.n)) rfl (by decide)) ?_
    refine WP.s .n (O.fn fn27 (evs.c rfl (evs.c rfl evs.nil)) (c_zint_made (decide (n < 0)) [(n.natAbs % 4294967296 : Nat), (n.natAbs / 2 ^ 32 : Nat)])) ?_
    refine WP.t .n (O.stW (l := kC) (u := ival ((decide (n < 0)), [(n.natAbs % 4294967296 : Nat), (n.natAbs / 2 ^ 32 : Nat)])) 0 rfl rfl rfl ty24 rfl (VP.le_refl _)) ?_
    refine WP.nil ?_
    refine QE.next ?_
    refine CW.ret ?_
    refine ST.obtold 0 rfl (OB.box_eq (y := n) of_val) ?_
    exact QE.done (.inl rfl) rfl (ResOk.c rfl (mem_at 0 rfl) ty24 ResOk.nil) (OImp.sub (List.nil_sublist _)) ⟨rfl, rfl⟩
  · refine ST.told 3 rfl (is_eq (y := ((n.natAbs : Nat) : Int)) (of_pos h_t7 hn.2)) ?_
    refine CW.skip ?_
    refine QE.next ?_
    refine CW.seq ?_
    refine CW.region ?_
    refine WP.s .n (O.mv rfl) ?_
    refine WP.s .n (O.lt rfl rfl) ?_
    refine WP.s .n (O.mv rfl) ?_
    refine WP.s .n (O.cvt rfl Try.underlying62 Try.underlying50 (c := ((n.natAbs % 4294967296 : Nat) : Int)) (wr32 rfl)) ?_
    refine WP.s .n (O.mv rfl) ?_
    refine WP.s .n (O.shr rfl rfl (by omega) (c := ((n.natAbs / 2 ^ 32 : Nat) : Int)) (shrN 32 rfl rfl (by decide))) ?_
    refine WP.s .n (O.cvt rfl Try.underlying62 Try.underlying50 (c := ((n.natAbs / 2 ^ 32 : Nat) : Int)) (wrs32 (by omega))) ?_
    refine WP.s .n (O.bs Try.underlying22 el50_limb (evl.l rfl (u32_limb (x := (n.natAbs % 4294967296 : Nat)) (by omega)) (evl.l rfl (u32_limb (x := (n.natAbs / 2 ^ 32 : Nat)) (by omega)) evl.n)) rfl (by decide)) ?_
    refine WP.s .n (O.fn fn27 (evs.c rfl (evs.c rfl evs.nil)) (c_zint_made (decide (n < 0)) [(n.natAbs % 4294967296 : Nat), (n.natAbs / 2 ^ 32 : Nat)])) ?_
    refine WP.t .n (O.stW (l := kC) (u := ival ((decide (n < 0)), [(n.natAbs % 4294967296 : Nat), (n.natAbs / 2 ^ 32 : Nat)])) 0 rfl rfl rfl ty24 rfl (VP.le_refl _)) ?_
    refine WP.nil ?_
    refine QE.next ?_
    refine CW.ret ?_
    refine ST.obtold 0 rfl (OB.box_eq (y := n) of_val) ?_
    exact QE.done (.inl rfl) rfl (ResOk.c rfl (mem_at 0 rfl) ty24 ResOk.nil) (OImp.sub (List.nil_sublist _)) ⟨rfl, rfl⟩

set_option maxRecDepth 20000 in
set_option maxHeartbeats 1000000 in
theorem c_zint_Neg (z : Int) : Fn Try.prog 34 [kZ.is z] (kC.is (-z)) := by
  refine Con.enter Try.func34 rfl rfl fun m w => ?_
  refine ST.z 0 rfl fun y y_v y_n y_l => ?_
  refine CW.seq ?_
  refine CW.region ?_
  refine WP.bx .n rfl fun b1 => ?_
  refine WP.al .n z24_C fun b2 => ?_
  refine WP.nil ?_
  refine QE.next ?_
  refine CW.seq ?_
  refine CW.region ?_
  refine WP.s .n (O.fa rfl fld24_0 rfl) ?_
  refine WP.s .n (O.ld rfl (mem_at 1 rfl) (Lens.fst (Lens.id _)) ty4 rfl) ?_
  refine WP.s .n (O.not rfl) ?_
  refine WP.s .n (O.fa rfl fld24_1 rfl) ?_
  refine WP.s .n (O.ld rfl (mem_at 1 rfl) (Lens.snd (Lens.id _)) ty22 rfl) ?_
  refine WP.s .n (O.fn fn27 (evs.c rfl (evs.c rfl evs.nil)) (c_zint_made (!y.1) y.2)) ?_
  refine WP.t .n (O.stW (l := kC) (u := ival ((!y.1), y.2)) 0 rfl rfl rfl ty24 rfl (VP.le_refl _)) ?_
  refine WP.nil ?_
  refine QE.next ?_
  refine CW.ret ?_
  refine ST.obtold 0 rfl (OB.box_eq (y := (-z)) (by rw [← y_v]; exact ival_not)) ?_
  exact QE.done (.inl rfl) rfl (ResOk.c rfl (mem_at 0 rfl) ty24 ResOk.nil) (OImp.sub (List.nil_sublist _)) ⟨rfl, rfl⟩

set_option maxRecDepth 20000 in
set_option maxHeartbeats 1000000 in
theorem c_zint_Abs (z : Int) : Fn Try.prog 17 [kZ.is z] (kC.is (z.natAbs : Int)) := by
  refine Con.enter Try.func17 rfl rfl fun m w => ?_
  refine ST.z 0 rfl fun y y_v y_n y_l => ?_
  refine CW.seq ?_
  refine CW.region ?_
  refine WP.bx .n rfl fun b1 => ?_
  refine WP.al .n z24_C fun b2 => ?_
  refine WP.nil ?_
  refine QE.next ?_
  refine CW.seq ?_
  refine CW.region ?_
  refine WP.s .n (O.fa rfl fld24_1 rfl) ?_
  refine WP.s .n (O.ld rfl (mem_at 1 rfl) (Lens.snd (Lens.id _)) ty22 rfl) ?_
  refine WP.s .n (O.fn fn27 (evs.c rfl (evs.c rfl evs.nil)) (c_zint_made false y.2)) ?_
  refine WP.t .n (O.stW (l := kC) (u := ival (false, y.2)) 0 rfl rfl rfl ty24 rfl (VP.le_refl _)) ?_
  refine WP.nil ?_
  refine QE.next ?_
  refine CW.ret ?_
  refine ST.obtold 0 rfl (OB.box_eq (y := (z.natAbs : Int)) (by rw [← y_v, ival_abs]; rfl)) ?_
  exact QE.done (.inl rfl) rfl (ResOk.c rfl (mem_at 0 rfl) ty24 ResOk.nil) (OImp.sub (List.nil_sublist _)) ⟨rfl, rfl⟩

set_option maxRecDepth 20000 in
set_option maxHeartbeats 1000000 in
theorem c_zint_Form (z : Int) : Fn Try.prog 30 [kZ.is z] (kC.is z) := by
  refine Con.enter Try.func30 rfl rfl fun m w => ?_
  refine ST.z 0 rfl fun y y_v y_n y_l => ?_
  refine CW.seq ?_
  refine CW.region ?_
  refine WP.bx .n rfl fun b1 => ?_
  refine WP.al .n z24_C fun b2 => ?_
  refine WP.nil ?_
  refine QE.next ?_
  refine CW.seq ?_
  refine CW.region ?_
  refine WP.s .n (O.fa rfl fld24_0 rfl) ?_
  refine WP.s .n (O.ld rfl (mem_at 1 rfl) (Lens.fst (Lens.id _)) ty4 rfl) ?_
  refine WP.s .n (O.fa rfl fld24_1 rfl) ?_
  refine WP.s .n (O.ld rfl (mem_at 1 rfl) (Lens.snd (Lens.id _)) ty22 rfl) ?_
  refine WP.s .n (O.fn fn27 (evs.c rfl (evs.c rfl evs.nil)) (c_zint_made y.1 y.2)) ?_
  refine WP.t .n (O.stW (l := kC) (u := ival (y.1, y.2)) 0 rfl rfl rfl ty24 rfl (VP.le_refl _)) ?_
  refine WP.nil ?_
  refine QE.next ?_
  refine CW.ret ?_
  refine ST.obtold 0 rfl (OB.box_eq (y := z) y_v) ?_
  exact QE.done (.inl rfl) rfl (ResOk.c rfl (mem_at 0 rfl) ty24 ResOk.nil) (OImp.sub (List.nil_sublist _)) ⟨rfl, rfl⟩

set_option maxRecDepth 20000 in
set_option maxHeartbeats 1000000 in
theorem c_zint_Sub (x y : Int) : Fn Try.prog 19 [kZ.is x, kZ.is y] (kC.is (x - y)) := by
  refine Con.enter Try.func19 rfl rfl fun m w => ?_
  refine ST.fact (i := 1) rfl kZ_sm fun hsy => ?_
  refine CW.seq ?_
  refine CW.region ?_
  refine WP.bx .n rfl fun b1 => ?_
  refine WP.bx .n rfl fun b2 => ?_
  refine WP.al .n z24_C fun b3 => ?_
  refine WP.nil ?_
  refine QE.next ?_
  refine CW.seq ?_
  refine CW.draw (Γ := [.fr (kZ.is x), .fr (kZ.is y), .fr (kC.is (-y)), .fr (kC.is (x + (-y)))]) (lates := [false, false, false, false]) (by kernel_rfl) (Chk.of rfl (by kernel_rfl) rfl) (fun _ _ _ _ _ h => h) (fun q_ x_ h_ => ?_) (fun σ => ?_)
  · match q_, h_ with
    | 0, h_ => cases h_; exact Ob.f rfl .n fun N => (O.ld rfl (mem_app N (mem_at 2 rfl)) (Lens.id _) ty24 rfl)
    | 1, h_ => cases h_; exact Ob.f rfl .n fun N => (O.ld rfl (mem_app N (mem_at 1 rfl)) (Lens.id _) ty24 rfl)
    | 2, h_ => cases h_; exact Ob.f rfl .n fun N => (O.fn fn34 (evs.c rfl evs.nil) (c_zint_Neg y))
    | 3, h_ => cases h_; exact Ob.f rfl .n fun N => (O.fn fn32 (evs.c rfl (evs.l rfl (kC_Z (by first | assumption | exact Sm_neg (by assumption))) evs.nil)) (c_zint_Add x (-y)))
    | n_ + 4, h_ => simp at h_
  refine WP.t .n (O.stW (l := kC) (u := x + (-y)) 0 rfl rfl rfl ty24 rfl (VP.le_refl _)) ?_
  refine WP.nil ?_
  refine QE.next ?_
  refine CW.ret ?_
  refine ST.obtold 0 rfl (OB.box_eq (y := (x - y)) (Int.sub_eq_add_neg).symm) ?_
  exact QE.done (.inl rfl) rfl (ResOk.c rfl (mem_at 0 rfl) ty24 ResOk.nil) (OImp.sub (List.nil_sublist _)) ⟨rfl, rfl⟩

set_option maxRecDepth 20000 in
set_option maxHeartbeats 1000000 in
theorem c_zint_Mul (x y : Int) : Fn Try.prog 20 [kZ.is x, kZ.is y] (kC.is (x * y)) := by
  refine Con.enter Try.func20 rfl rfl fun m w => ?_
  refine ST.z 0 rfl fun p p_v p_n p_l => ?_
  refine ST.z 1 rfl fun q q_v q_n q_l => ?_
  refine CW.seq ?_
  refine CW.region ?_
  refine WP.bx .n rfl fun b1 => ?_
  refine WP.bx .n rfl fun b2 => ?_
  refine WP.al .n z24_C fun b3 => ?_
  refine WP.nil ?_
  refine QE.next ?_
  refine CW.seq ?_
  refine CW.draw (Γ := [.fr (VP.ex (.pointer (some ⟨b1, 0, none⟩))), .fr (kBool.is p.1), .fr (VP.ex (.pointer (some ⟨b2, 0, none⟩))), .fr (kBool.is q.1), .fr (kBool.is (decide (p.1 ≠ q.1))), .fr (VP.ex (.pointer (some ⟨b1, 1, none⟩))), .fr (kN.is p.2), .fr (VP.ex (.pointer (some ⟨b2, 1, none⟩))), .fr (kN.is q.2), .fr (kN.is (limbs (nval p.2 * nval q.2))), .fr (kC.is (ival ((decide (p.1 ≠ q.1)), (limbs (nval p.2 * nval q.2)))))]) (lates := [false, false, false, false, false, false, false, false, false, false, false]) (by kernel_rfl) (Chk.of rfl (by kernel_rfl) rfl) (fun _ _ _ _ _ h => h) (fun q_ x_ h_ => ?_) (fun σ => ?_)
  · match q_, h_ with
    | 0, h_ => cases h_; exact Ob.f rfl .n fun N => (O.fa rfl fld24_0 rfl)
    | 1, h_ => cases h_; exact Ob.f rfl .n fun N => (O.ld rfl (mem_app N (mem_at 2 rfl)) (Lens.fst (Lens.id _)) ty4 rfl)
    | 2, h_ => cases h_; exact Ob.f rfl .n fun N => (O.fa rfl fld24_0 rfl)
    | 3, h_ => cases h_; exact Ob.f rfl .n fun N => (O.ld rfl (mem_app N (mem_at 1 rfl)) (Lens.fst (Lens.id _)) ty4 rfl)
    | 4, h_ => cases h_; exact Ob.f rfl .n fun N => (O.neB rfl rfl Try.underlying4)
    | 5, h_ => cases h_; exact Ob.f rfl .n fun N => (O.fa rfl fld24_1 rfl)
    | 6, h_ => cases h_; exact Ob.f rfl .n fun N => (O.ld rfl (mem_app N (mem_at 2 rfl)) (Lens.snd (Lens.id _)) ty22 rfl)
    | 7, h_ => cases h_; exact Ob.f rfl .n fun N => (O.fa rfl fld24_1 rfl)
    | 8, h_ => cases h_; exact Ob.f rfl .n fun N => (O.ld rfl (mem_app N (mem_at 1 rfl)) (Lens.snd (Lens.id _)) ty22 rfl)
    | 9, h_ => cases h_; exact Ob.f rfl .n fun N => (O.fn fn37 (evs.c rfl (evs.c rfl evs.nil)) (c_nat_Mul p.2 q.2 (by omega)))
    | 10, h_ => cases h_; exact Ob.f rfl .n fun N => (O.fn fn27 (evs.c rfl (evs.c rfl evs.nil)) (c_zint_made (decide (p.1 ≠ q.1)) (limbs (nval p.2 * nval q.2))))
    | n_ + 11, h_ => simp at h_
  refine WP.t .n (O.stW (l := kC) (u := ival ((decide (p.1 ≠ q.1)), (limbs (nval p.2 * nval q.2)))) 0 rfl rfl rfl ty24 rfl (VP.le_refl _)) ?_
  refine WP.nil ?_
  refine QE.next ?_
  refine CW.ret ?_
  refine ST.obtold 0 rfl (OB.box_eq (y := (x * y)) (by rw [← p_v, ← q_v]; exact ival_mul)) ?_
  exact QE.done (.inl rfl) rfl (ResOk.c rfl (mem_at 0 rfl) ty24 ResOk.nil) (OImp.sub (List.nil_sublist _)) ⟨rfl, rfl⟩

set_option maxRecDepth 20000 in
set_option maxHeartbeats 1000000 in
theorem c_zint_Compare (x y : Int) : Fn Try.prog 16 [kZ.is x, kZ.is y] ((kInt .i64).is ((x - y).sign)) := by
  refine Con.enter Try.func16 rfl rfl fun m w => ?_
  refine ST.z 0 rfl fun p p_v p_n p_l => ?_
  refine ST.z 1 rfl fun q q_v q_n q_l => ?_
  refine CW.seq ?_
  refine CW.region ?_
  refine WP.bx .n rfl fun b1 => ?_
  refine WP.bx .n rfl fun b2 => ?_
  refine WP.s .n (O.asg rfl) ?_
  refine WP.nil ?_
  refine QE.next ?_
  refine CW.seq ?_
  refine CW.draw (Γ := [.fr (kI.is (p.1, p.2)), .fr ((kInt .i64).is ((ival (p.1, p.2)).sign)), .fr (kI.is (q.1, q.2)), .fr ((kInt .i64).is ((ival (q.1, q.2)).sign))]) (lates := [false, false, false, false]) (by kernel_rfl) (Chk.of rfl (by kernel_rfl) rfl) (fun _ _ _ _ _ h => h) (fun q_ x_ h_ => ?_) (fun σ => ?_)
  · match q_, h_ with
    | 0, h_ => cases h_; exact Ob.f rfl .n fun N => (O.ld rfl (mem_app N (mem_at 1 rfl)) (Lens.id _) ty24 rfl)
    | 1, h_ => cases h_; exact Ob.f rfl .n fun N => (O.fn fn18 (evs.l rfl (kI_Z rfl (by omega)) evs.nil) (c_zint_Sign (ival (p.1, p.2))))
    | 2, h_ => cases h_; exact Ob.f rfl .n fun N => (O.ld rfl (mem_app N (mem_at 0 rfl)) (Lens.id _) ty24 rfl)
    | 3, h_ => cases h_; exact Ob.f rfl .n fun N => (O.fn fn18 (evs.l rfl (kI_Z rfl (by omega)) evs.nil) (c_zint_Sign (ival (q.1, q.2))))
    | n_ + 4, h_ => simp at h_
  refine WP.s .n (O.asg rfl) ?_
  refine WP.s .n (O.asg rfl) ?_
  refine WP.nil ?_
  refine QE.next ?_
  refine CW.seq ?_
  refine CW.block ?_
  refine CW.seq ?_
  refine CW.region ?_
  refine WP.s .n (O.mv rfl) ?_
  refine WP.s .n (O.mv rfl) ?_
  refine WP.s .n (O.lt rfl rfl) ?_
  refine WP.s .n (O.asg rfl) ?_
  refine WP.nil ?_
  refine QE.next ?_
  refine CW.condD rfl (fun h_t11 => ?_) (fun h_t11 => ?_)
  · refine CW.seq ?_
    refine CW.region ?_
    refine WP.s .n (O.asg rfl) ?_
    refine WP.nil ?_
    refine QE.next ?_
    refine CW.ret ?_
    refine QE.blkR ?_
    refine QE.thenR ?_
    refine ST.told 4 rfl (is_eq (y := (x - y).sign) (zcmp_lt p_v q_v h_t11)) ?_
    exact QE.done (.inl rfl) rfl (ResOk.t rfl ResOk.nil) (OImp.sub (List.nil_sublist _)) ⟨rfl, rfl⟩
  · refine CW.seq ?_
    refine CW.region ?_
    refine WP.s .n (O.mv rfl) ?_
    refine WP.s .n (O.mv rfl) ?_
    refine WP.s .n (O.gt rfl rfl) ?_
    refine WP.s .n (O.asg rfl) ?_
    refine WP.nil ?_
    refine QE.next ?_
    refine CW.condD rfl (fun h_t15 => ?_) (fun h_t15 => ?_)
    · refine CW.seq ?_
      refine CW.region ?_
      refine WP.s .n (O.asg rfl) ?_
      refine WP.nil ?_
      refine QE.next ?_
      refine CW.ret ?_
      refine QE.blkR ?_
      refine QE.thenR ?_
      refine ST.told 4 rfl (is_eq (y := (x - y).sign) (zcmp_gt p_v q_v h_t15)) ?_
      exact QE.done (.inl rfl) rfl (ResOk.t rfl ResOk.nil) (OImp.sub (List.nil_sublist _)) ⟨rfl, rfl⟩
    · refine CW.skip ?_
      refine QE.blkN ?_
      refine QE.next ?_
      refine CW.seq ?_
      refine CW.region ?_
      refine WP.s .n (O.mv rfl) ?_
      refine WP.s .n (O.fa rfl fld24_1 rfl) ?_
      refine WP.s .n (O.ld rfl (mem_at 1 rfl) (Lens.snd (Lens.id _)) ty22 rfl) ?_
      refine WP.s .n (O.fa rfl fld24_1 rfl) ?_
      refine WP.s .n (O.ld rfl (mem_at 0 rfl) (Lens.snd (Lens.id _)) ty22 rfl) ?_
      refine WP.s .n (O.fn fn35 (evs.c rfl (evs.c rfl evs.nil)) (c_nat_Cmp p.2 q.2)) ?_
      refine WP.s .n (O.mul rfl rfl (c := ((x - y).sign)) (zcmp_same p_v q_v h_t11 h_t15)) ?_
      refine WP.s .n (O.asg rfl) ?_
      refine WP.nil ?_
      refine QE.next ?_
      refine CW.ret ?_
      exact QE.done (.inl rfl) rfl (ResOk.t rfl ResOk.nil) (OImp.sub (List.nil_sublist _)) ⟨rfl, rfl⟩

end Fw


/- Weights that climb, choices and the greedy block: what the functions answer. -/
set_option linter.unusedVariables false
set_option linter.unusedSimpArgs false
set_option exponentiation.threshold 400
namespace Fw
open Go Go.Proofs

end Fw


/- Plain facts on limbs: the document's quotient. -/
set_option linter.unusedVariables false
set_option linter.unusedSimpArgs false
set_option exponentiation.threshold 70
namespace Fw
open Go (IntKind)
end Fw


/- What the document's functions on quotients of limbs answer. -/
set_option linter.unusedVariables false
set_option linter.unusedSimpArgs false
set_option exponentiation.threshold 70
namespace Fw
open Go Go.Proofs

end Fw


/- What Floor of layer 2 answers. -/
set_option linter.unusedVariables false
set_option linter.unusedSimpArgs false
set_option exponentiation.threshold 70
namespace Fw
open Go Go.Proofs

set_option maxRecDepth 20000 in
set_option maxHeartbeats 8000000 in
theorem c_zint_Floor (x y : Int) : Fn Try.prog 31 [kZ.is x, kZ.is y] (VP.tup [kC.is (x.fdiv y), kC.is (if y = 0 then 0 else x.fmod y), (kInt .i64).is (if y = 0 then 11 else 0)]) := by
  refine Con.enter Try.func31 rfl rfl fun m w => ?_
  refine ST.fact (i := 0) rfl kZ_sm fun hsx => ?_
  refine ST.z 0 rfl fun p p_v p_n p_l => ?_
  refine ST.z 1 rfl fun q q_v q_n q_l => ?_
  refine CW.seq ?_
  refine CW.region ?_
  refine WP.bx .n rfl fun b1 => ?_
  refine WP.bx .n rfl fun b2 => ?_
  refine WP.al .n z24_C fun b3 => ?_
  refine WP.al .n z24_C fun b4 => ?_
  refine WP.s .n (O.asg rfl) ?_
  refine WP.nil ?_
  refine QE.next ?_
  refine CW.seq ?_
  refine CW.region ?_
  refine WP.s .n (O.fa rfl fld24_1 rfl) ?_
  refine WP.s .n (O.ld rfl (mem_at 3 rfl) (Lens.snd (Lens.id _)) ty22 rfl) ?_
  refine WP.s .n (O.fa rfl fld24_1 rfl) ?_
  refine WP.s .n (O.ld rfl (mem_at 2 rfl) (Lens.snd (Lens.id _)) ty22 rfl) ?_
  refine WP.s .n (O.fn fn46 (evs.c rfl (evs.c rfl evs.nil)) (c_nat_Div p.2 q.2 (by omega) (by omega))) ?_
  refine WP.s .n (O.mv rfl) ?_
  refine WP.s .n (O.ext rfl rfl) ?_
  refine WP.s .n (O.ext rfl rfl) ?_
  refine WP.s .n (O.ext rfl rfl) ?_
  refine WP.s .n (O.asg rfl) ?_
  refine WP.s .n (O.asg rfl) ?_
  refine WP.s .n (O.asg rfl) ?_
  refine WP.nil ?_
  refine QE.next ?_
  refine CW.seq ?_
  refine CW.seq ?_
  refine CW.region ?_
  refine WP.s .n (O.mv rfl) ?_
  refine WP.s .n (O.ne rfl rfl) ?_
  refine WP.nil ?_
  refine QE.next ?_
  refine CW.condD rfl (fun h_t22 => ?_) (fun h_t22 => ?_)
  · have hq0 : nval q.2 = 0 := by by_cases h : nval q.2 = 0; exact h; simp [h] at h_t22
    have hy : y = 0 := by rw [← q_v, ival0 hq0]
    refine CW.seq ?_
    refine CW.region ?_
    refine WP.s .n (O.bld lit24_C rfl evp.n (.nil _)) ?_
    refine WP.s .n (O.bld lit24_C rfl evp.n (.nil _)) ?_
    refine WP.t .n (O.stW (l := kC) (u := 0) 1 rfl rfl rfl ty24 rfl (VP.le_refl _)) ?_
    refine WP.t .n (O.stW (l := kC) (u := 0) 0 rfl rfl rfl ty24 rfl (VP.le_refl _)) ?_
    refine WP.s .n (O.asg rfl) ?_
    refine WP.nil ?_
    refine QE.next ?_
    refine CW.ret ?_
    refine QE.thenR ?_
    refine ST.obtold 1 rfl (OB.box_eq (y := (x.fdiv y)) (by rw [hy, Int.fdiv_zero])) ?_
    refine ST.obtold 0 rfl (OB.box_eq (y := (if y = 0 then 0 else x.fmod y)) (by rw [if_pos hy])) ?_
    refine ST.told 6 rfl (is_eq (y := (if y = 0 then 11 else 0)) (by rw [if_pos hy])) ?_
    exact QE.done (.inl rfl) rfl (ResOk.c rfl (mem_at 1 rfl) ty24 (ResOk.c rfl (mem_at 0 rfl) ty24 (ResOk.t rfl ResOk.nil))) (OImp.sub (List.nil_sublist _)) ⟨rfl, rfl⟩
  · have hq0 : nval q.2 ≠ 0 := fun h => by simp [h] at h_t22
    have hy : y ≠ 0 := fun h => by rw [← q_v] at h; have := ival_abs q; rw [h] at this; exact hq0 this.symm
    refine CW.skip ?_
    refine QE.next ?_
    refine CW.seq ?_
    refine CW.draw (Γ := [.fr (VP.ex (.pointer (some ⟨b1, 0, none⟩))), .fr (kBool.is p.1), .fr (VP.ex (.pointer (some ⟨b2, 0, none⟩))), .fr (kBool.is q.1), .fr (kBool.is (decide (p.1 ≠ q.1))), .fr (kN.is (limbs (nval p.2 / nval q.2))), .fr (kC.is (ival ((decide (p.1 ≠ q.1)), (limbs (nval p.2 / nval q.2))))), .fr (VP.ex (.pointer (some ⟨b1, 0, none⟩))), .fr (kBool.is p.1), .fr (kN.is (if nval q.2 = 0 then [] else limbs (nval p.2 % nval q.2))), .fr (kC.is (ival (p.1, (if nval q.2 = 0 then [] else limbs (nval p.2 % nval q.2))))), .al (fun b => OB.box b 24 kC 0), .al (fun b => OB.box b 24 kC 0)]) (lates := [false, false, false, false, false, false, false, false, false, false, false, false, false]) (by kernel_rfl) (Chk.of rfl (by kernel_rfl) rfl) (fun _ _ _ _ _ h => h) (fun q_ x_ h_ => ?_) (fun σ => ?_)
    · match q_, h_ with
      | 0, h_ => cases h_; exact Ob.f rfl .n fun N => (O.fa rfl fld24_0 rfl)
      | 1, h_ => cases h_; exact Ob.f rfl .n fun N => (O.ld rfl (mem_app N (mem_at 3 rfl)) (Lens.fst (Lens.id _)) ty4 rfl)
      | 2, h_ => cases h_; exact Ob.f rfl .n fun N => (O.fa rfl fld24_0 rfl)
      | 3, h_ => cases h_; exact Ob.f rfl .n fun N => (O.ld rfl (mem_app N (mem_at 2 rfl)) (Lens.fst (Lens.id _)) ty4 rfl)
      | 4, h_ => cases h_; exact Ob.f rfl .n fun N => (O.neB rfl rfl Try.underlying4)
      | 5, h_ => cases h_; exact Ob.f rfl .n fun N => (O.mv rfl)
      | 6, h_ => cases h_; exact Ob.f rfl .n fun N => (O.fn fn27 (evs.c rfl (evs.c rfl evs.nil)) (c_zint_made (decide (p.1 ≠ q.1)) (limbs (nval p.2 / nval q.2))))
      | 7, h_ => cases h_; exact Ob.f rfl .n fun N => (O.fa rfl fld24_0 rfl)
      | 8, h_ => cases h_; exact Ob.f rfl .n fun N => (O.ld rfl (mem_app N (mem_at 3 rfl)) (Lens.fst (Lens.id _)) ty4 rfl)
      | 9, h_ => cases h_; exact Ob.f rfl .n fun N => (O.mv rfl)
      | 10, h_ => cases h_; exact Ob.f rfl .n fun N => (O.fn fn27 (evs.c rfl (evs.c rfl evs.nil)) (c_zint_made p.1 (if nval q.2 = 0 then [] else limbs (nval p.2 % nval q.2))))
      | 11, h_ => cases h_; exact Ob.a rfl z24_C
      | 12, h_ => cases h_; exact Ob.a rfl z24_C
      | n_ + 13, h_ => simp at h_
    refine WP.t .n (O.stW (l := kC) (u := ival ((decide (p.1 ≠ q.1)), (limbs (nval p.2 / nval q.2)))) 0 rfl rfl rfl ty24 rfl (VP.le_refl _)) ?_
    refine WP.t .n (O.stW (l := kC) (u := ival (p.1, (if nval q.2 = 0 then [] else limbs (nval p.2 % nval q.2)))) 1 rfl rfl rfl ty24 rfl (VP.le_refl _)) ?_
    refine WP.nil ?_
    refine QE.next ?_
    refine CW.seq ?_
    refine CW.seq ?_
    obtain ⟨M, hM⟩ : ∃ M, M = ival (decide (p.1 ≠ q.1), limbs (nval p.2 / nval q.2)) := ⟨_, rfl⟩
    obtain ⟨R, hR⟩ : ∃ R, R = ival (p.1, if nval q.2 = 0 then [] else limbs (nval p.2 % nval q.2)) := ⟨_, rfl⟩
    refine ST.obtold 0 rfl (OB.box_eq (y := M) hM.symm) ?_
    refine ST.obtold 1 rfl (OB.box_eq (y := R) hR.symm) ?_
    have hx : x = M * y + R := by rw [← p_v, ← q_v, hM, hR]; exact div_split hq0
    have hl : R.natAbs < y.natAbs := by rw [← q_v, hR]; exact rem_lt hq0
    have hsM : Sm M := Sm_le hsx (by rw [hM, ← p_v, ival_abs, ival_abs, nval_limbs]; exact Nat.div_le_self _ _)
    have hsR : Sm R := Sm_le hsx (by rw [hR, ← p_v, ival_abs, ival_abs, if_neg hq0, nval_limbs]; exact Nat.mod_le _ _)
    have hs1 : Sm 1 := Sm_lit (by decide)
    by_cases h5 : R.sign ≠ 0
    · refine CW.draw (Γ := [.fr (kC.is R), .fr ((kInt .i64).is R.sign), .fr (kBool.is true), .fr (kBool.is true), .fr (kC.is R), .fr ((kInt .i64).is R.sign), .fr (kI.is (q.1, q.2)), .fr ((kInt .i64).is ((ival (q.1, q.2)).sign)), .fr (kBool.is (decide (R.sign ≠ ((ival (q.1, q.2)).sign)))), .fr (kBool.is (decide (R.sign ≠ ((ival (q.1, q.2)).sign))))]) (lates := [false, false, false, false, false, false, false, false, false, false]) (by kernel_rfl) (Chk.of rfl (by kernel_rfl) rfl) (fun _ _ _ _ _ h => h) (fun q_ x_ h_ => ?_) (fun σ => ?_)
      · match q_, h_ with
        | 0, h_ => cases h_; exact Ob.f rfl .n fun N => (O.ld rfl (mem_app N (mem_at 1 rfl)) (Lens.id _) ty24 rfl)
        | 1, h_ => cases h_; exact Ob.f rfl .n fun N => (O.fn fn18 (evs.l rfl (kC_Z (by assumption)) evs.nil) (c_zint_Sign R))
        | 2, h_ => cases h_; exact Ob.f rfl .n fun N => (OpOk.le (O.ne rfl rfl) (is_eq (by simp [h5])))
        | 3, h_ => cases h_; exact Ob.f rfl .n fun N => (O.mv rfl)
        | 4, h_ => cases h_; exact Ob.f rfl (.g rfl rfl) fun N => (O.ld rfl (mem_app N (mem_at 1 rfl)) (Lens.id _) ty24 rfl)
        | 5, h_ => cases h_; exact Ob.f rfl (.g rfl rfl) fun N => (O.fn fn18 (evs.l rfl (kC_Z (by assumption)) evs.nil) (c_zint_Sign R))
        | 6, h_ => cases h_; exact Ob.f rfl (.g rfl rfl) fun N => (O.ld rfl (mem_app N (mem_at 4 rfl)) (Lens.id _) ty24 rfl)
        | 7, h_ => cases h_; exact Ob.f rfl (.g rfl rfl) fun N => (O.fn fn18 (evs.l rfl (kI_Z rfl (by omega)) evs.nil) (c_zint_Sign (ival (q.1, q.2))))
        | 8, h_ => cases h_; exact Ob.f rfl (.g rfl rfl) fun N => (O.ne rfl rfl)
        | 9, h_ => cases h_; exact Ob.f rfl .n fun N => (O.pickT rfl rfl)
        | n_ + 10, h_ => simp at h_
      refine WP.nil ?_
      refine QE.next ?_
      refine CW.condD rfl (fun h_t45 => ?_) (fun h_t45 => ?_)
      · refine CW.draw (Γ := [.fr (kC.is M), .fr (kC.is 1), .fr (kC.is (M - 1)), .fr (kC.is R), .fr (kI.is (q.1, q.2)), .fr (kC.is (R + (ival (q.1, q.2))))]) (lates := [false, false, false, false, false, false]) (by kernel_rfl) (Chk.of rfl (by kernel_rfl) rfl) (fun _ _ _ _ _ h => h) (fun q_ x_ h_ => ?_) (fun σ => ?_)
        · match q_, h_ with
          | 0, h_ => cases h_; exact Ob.f rfl .n fun N => (O.ld rfl (mem_app N (mem_at 0 rfl)) (Lens.id _) ty24 rfl)
          | 1, h_ => cases h_; exact Ob.f rfl .n fun N => (O.fn fn11 (evs.l rfl (i64_int (by omega)) evs.nil) (c_zint_Of 1))
          | 2, h_ => cases h_; exact Ob.f rfl .n fun N => (O.fn fn19 (evs.l rfl (kC_Z (by assumption)) (evs.l rfl (kC_Z (by assumption)) evs.nil)) (c_zint_Sub M 1))
          | 3, h_ => cases h_; exact Ob.f rfl .n fun N => (O.ld rfl (mem_app N (mem_at 1 rfl)) (Lens.id _) ty24 rfl)
          | 4, h_ => cases h_; exact Ob.f rfl .n fun N => (O.ld rfl (mem_app N (mem_at 4 rfl)) (Lens.id _) ty24 rfl)
          | 5, h_ => cases h_; exact Ob.f rfl .n fun N => (O.fn fn32 (evs.l rfl (kC_Z (by assumption)) (evs.l rfl (kI_Z rfl (by omega)) evs.nil)) (c_zint_Add R (ival (q.1, q.2))))
          | n_ + 6, h_ => simp at h_
        refine WP.t .n (O.stW (l := kC) (u := M - 1) 0 rfl rfl rfl ty24 rfl (VP.le_refl _)) ?_
        refine WP.t .n (O.stW (l := kC) (u := R + (ival (q.1, q.2))) 1 rfl rfl rfl ty24 rfl (VP.le_refl _)) ?_
        refine WP.nil ?_
        refine QE.next ?_
        refine CW.seq ?_
        refine CW.any (by kernel_rfl) ?_
        refine DA.go 0 [1] (by kernel_rfl) ⟨?_, ⟨?_, trivial⟩⟩
        · refine DO.w rfl ?_
          refine WP.s .n (O.ld rfl (mem_at 0 rfl) (Lens.id _) ty24 rfl) ?_
          refine WP.nil ?_
          refine DO.nx ?_
          refine DA.go 1 [2] (by kernel_rfl) ⟨?_, ⟨?_, trivial⟩⟩
          · refine DO.w rfl ?_
            refine WP.s .n (O.ld rfl (mem_at 1 rfl) (Lens.id _) ty24 rfl) ?_
            refine WP.nil ?_
            refine DO.nx ?_
            refine DA.go 2 [] (by kernel_rfl) ⟨?_, trivial⟩
            refine DO.w rfl ?_
            refine WP.t .n (O.stW (l := kC) (u := M - 1) 3 rfl rfl rfl ty24 rfl (VP.le_refl _)) ?_
            refine WP.nil ?_
            refine DO.nx ?_
            refine DA.go 3 [] (by kernel_rfl) ⟨?_, trivial⟩
            refine DO.w rfl ?_
            refine WP.t .n (O.stW (l := kC) (u := R + (ival (q.1, q.2))) 2 rfl rfl rfl ty24 rfl (VP.le_refl _)) ?_
            refine WP.nil ?_
            refine DO.nx ?_
            refine DA.go 4 [] (by kernel_rfl) ⟨?_, trivial⟩
            refine DO.w rfl ?_
            refine WP.s .n (O.asg rfl) ?_
            refine WP.nil ?_
            refine DO.nx ?_
            refine DA.nil (by kernel_rfl) ?_
            refine QE.next ?_
            refine CW.ret ?_
            have hf := floor_2 hx hl h5 (by rw [← q_v]; exact h_t45)
            refine ST.obtold 3 rfl (OB.box_eq (y := (x.fdiv y)) hf.1) ?_
            refine ST.obtold 2 rfl (OB.box_eq (y := (if y = 0 then 0 else x.fmod y)) (by rw [if_neg hy, q_v]; exact hf.2)) ?_
            refine ST.told 6 rfl (is_eq (y := (if y = 0 then 11 else 0)) (by rw [if_neg hy])) ?_
            exact QE.done (.inl rfl) rfl (ResOk.c rfl (mem_at 3 rfl) ty24 (ResOk.c rfl (mem_at 2 rfl) ty24 (ResOk.t rfl ResOk.nil))) (OImp.sub (List.nil_sublist _)) ⟨rfl, rfl⟩
          · refine DO.w rfl ?_
            refine WP.t .n (O.stW (l := kC) (u := M - 1) 3 rfl rfl rfl ty24 rfl (VP.le_refl _)) ?_
            refine WP.nil ?_
            refine DO.nx ?_
            refine DA.go 1 [] (by kernel_rfl) ⟨?_, trivial⟩
            refine DO.w rfl ?_
            refine WP.s .n (O.ld rfl (mem_at 1 rfl) (Lens.id _) ty24 rfl) ?_
            refine WP.nil ?_
            refine DO.nx ?_
            refine DA.go 3 [] (by kernel_rfl) ⟨?_, trivial⟩
            refine DO.w rfl ?_
            refine WP.t .n (O.stW (l := kC) (u := R + (ival (q.1, q.2))) 2 rfl rfl rfl ty24 rfl (VP.le_refl _)) ?_
            refine WP.nil ?_
            refine DO.nx ?_
            refine DA.go 4 [] (by kernel_rfl) ⟨?_, trivial⟩
            refine DO.w rfl ?_
            refine WP.s .n (O.asg rfl) ?_
            refine WP.nil ?_
            refine DO.nx ?_
            refine DA.nil (by kernel_rfl) ?_
            refine QE.next ?_
            refine CW.ret ?_
            have hf := floor_2 hx hl h5 (by rw [← q_v]; exact h_t45)
            refine ST.obtold 3 rfl (OB.box_eq (y := (x.fdiv y)) hf.1) ?_
            refine ST.obtold 2 rfl (OB.box_eq (y := (if y = 0 then 0 else x.fmod y)) (by rw [if_neg hy, q_v]; exact hf.2)) ?_
            refine ST.told 6 rfl (is_eq (y := (if y = 0 then 11 else 0)) (by rw [if_neg hy])) ?_
            exact QE.done (.inl rfl) rfl (ResOk.c rfl (mem_at 3 rfl) ty24 (ResOk.c rfl (mem_at 2 rfl) ty24 (ResOk.t rfl ResOk.nil))) (OImp.sub (List.nil_sublist _)) ⟨rfl, rfl⟩
        · refine DO.w rfl ?_
          refine WP.s .n (O.ld rfl (mem_at 1 rfl) (Lens.id _) ty24 rfl) ?_
          refine WP.nil ?_
          refine DO.nx ?_
          refine DA.go 0 [] (by kernel_rfl) ⟨?_, trivial⟩
          refine DO.w rfl ?_
          refine WP.s .n (O.ld rfl (mem_at 0 rfl) (Lens.id _) ty24 rfl) ?_
          refine WP.nil ?_
          refine DO.nx ?_
          refine DA.go 2 [] (by kernel_rfl) ⟨?_, trivial⟩
          refine DO.w rfl ?_
          refine WP.t .n (O.stW (l := kC) (u := M - 1) 3 rfl rfl rfl ty24 rfl (VP.le_refl _)) ?_
          refine WP.nil ?_
          refine DO.nx ?_
          refine DA.go 3 [] (by kernel_rfl) ⟨?_, trivial⟩
          refine DO.w rfl ?_
          refine WP.t .n (O.stW (l := kC) (u := R + (ival (q.1, q.2))) 2 rfl rfl rfl ty24 rfl (VP.le_refl _)) ?_
          refine WP.nil ?_
          refine DO.nx ?_
          refine DA.go 4 [] (by kernel_rfl) ⟨?_, trivial⟩
          refine DO.w rfl ?_
          refine WP.s .n (O.asg rfl) ?_
          refine WP.nil ?_
          refine DO.nx ?_
          refine DA.nil (by kernel_rfl) ?_
          refine QE.next ?_
          refine CW.ret ?_
          have hf := floor_2 hx hl h5 (by rw [← q_v]; exact h_t45)
          refine ST.obtold 3 rfl (OB.box_eq (y := (x.fdiv y)) hf.1) ?_
          refine ST.obtold 2 rfl (OB.box_eq (y := (if y = 0 then 0 else x.fmod y)) (by rw [if_neg hy, q_v]; exact hf.2)) ?_
          refine ST.told 6 rfl (is_eq (y := (if y = 0 then 11 else 0)) (by rw [if_neg hy])) ?_
          exact QE.done (.inl rfl) rfl (ResOk.c rfl (mem_at 3 rfl) ty24 (ResOk.c rfl (mem_at 2 rfl) ty24 (ResOk.t rfl ResOk.nil))) (OImp.sub (List.nil_sublist _)) ⟨rfl, rfl⟩
      · refine CW.skip ?_
        refine QE.next ?_
        refine CW.seq ?_
        refine CW.any (by kernel_rfl) ?_
        refine DA.go 0 [1] (by kernel_rfl) ⟨?_, ⟨?_, trivial⟩⟩
        · refine DO.w rfl ?_
          refine WP.s .n (O.ld rfl (mem_at 0 rfl) (Lens.id _) ty24 rfl) ?_
          refine WP.nil ?_
          refine DO.nx ?_
          refine DA.go 1 [2] (by kernel_rfl) ⟨?_, ⟨?_, trivial⟩⟩
          · refine DO.w rfl ?_
            refine WP.s .n (O.ld rfl (mem_at 1 rfl) (Lens.id _) ty24 rfl) ?_
            refine WP.nil ?_
            refine DO.nx ?_
            refine DA.go 2 [] (by kernel_rfl) ⟨?_, trivial⟩
            refine DO.w rfl ?_
            refine WP.t .n (O.stW (l := kC) (u := M) 3 rfl rfl rfl ty24 rfl (VP.le_refl _)) ?_
            refine WP.nil ?_
            refine DO.nx ?_
            refine DA.go 3 [] (by kernel_rfl) ⟨?_, trivial⟩
            refine DO.w rfl ?_
            refine WP.t .n (O.stW (l := kC) (u := R) 2 rfl rfl rfl ty24 rfl (VP.le_refl _)) ?_
            refine WP.nil ?_
            refine DO.nx ?_
            refine DA.go 4 [] (by kernel_rfl) ⟨?_, trivial⟩
            refine DO.w rfl ?_
            refine WP.s .n (O.asg rfl) ?_
            refine WP.nil ?_
            refine DO.nx ?_
            refine DA.nil (by kernel_rfl) ?_
            refine QE.next ?_
            refine CW.ret ?_
            have hf := floor_1 hx hl h5 (by rw [← q_v]; exact h_t45)
            refine ST.obtold 3 rfl (OB.box_eq (y := (x.fdiv y)) hf.1) ?_
            refine ST.obtold 2 rfl (OB.box_eq (y := (if y = 0 then 0 else x.fmod y)) (by rw [if_neg hy]; exact hf.2)) ?_
            refine ST.told 6 rfl (is_eq (y := (if y = 0 then 11 else 0)) (by rw [if_neg hy])) ?_
            exact QE.done (.inl rfl) rfl (ResOk.c rfl (mem_at 3 rfl) ty24 (ResOk.c rfl (mem_at 2 rfl) ty24 (ResOk.t rfl ResOk.nil))) (OImp.sub (List.nil_sublist _)) ⟨rfl, rfl⟩
          · refine DO.w rfl ?_
            refine WP.t .n (O.stW (l := kC) (u := M) 3 rfl rfl rfl ty24 rfl (VP.le_refl _)) ?_
            refine WP.nil ?_
            refine DO.nx ?_
            refine DA.go 1 [] (by kernel_rfl) ⟨?_, trivial⟩
            refine DO.w rfl ?_
            refine WP.s .n (O.ld rfl (mem_at 1 rfl) (Lens.id _) ty24 rfl) ?_
            refine WP.nil ?_
            refine DO.nx ?_
            refine DA.go 3 [] (by kernel_rfl) ⟨?_, trivial⟩
            refine DO.w rfl ?_
            refine WP.t .n (O.stW (l := kC) (u := R) 2 rfl rfl rfl ty24 rfl (VP.le_refl _)) ?_
            refine WP.nil ?_
            refine DO.nx ?_
            refine DA.go 4 [] (by kernel_rfl) ⟨?_, trivial⟩
            refine DO.w rfl ?_
            refine WP.s .n (O.asg rfl) ?_
            refine WP.nil ?_
            refine DO.nx ?_
            refine DA.nil (by kernel_rfl) ?_
            refine QE.next ?_
            refine CW.ret ?_
            have hf := floor_1 hx hl h5 (by rw [← q_v]; exact h_t45)
            refine ST.obtold 3 rfl (OB.box_eq (y := (x.fdiv y)) hf.1) ?_
            refine ST.obtold 2 rfl (OB.box_eq (y := (if y = 0 then 0 else x.fmod y)) (by rw [if_neg hy]; exact hf.2)) ?_
            refine ST.told 6 rfl (is_eq (y := (if y = 0 then 11 else 0)) (by rw [if_neg hy])) ?_
            exact QE.done (.inl rfl) rfl (ResOk.c rfl (mem_at 3 rfl) ty24 (ResOk.c rfl (mem_at 2 rfl) ty24 (ResOk.t rfl ResOk.nil))) (OImp.sub (List.nil_sublist _)) ⟨rfl, rfl⟩
        · refine DO.w rfl ?_
          refine WP.s .n (O.ld rfl (mem_at 1 rfl) (Lens.id _) ty24 rfl) ?_
          refine WP.nil ?_
          refine DO.nx ?_
          refine DA.go 0 [] (by kernel_rfl) ⟨?_, trivial⟩
          refine DO.w rfl ?_
          refine WP.s .n (O.ld rfl (mem_at 0 rfl) (Lens.id _) ty24 rfl) ?_
          refine WP.nil ?_
          refine DO.nx ?_
          refine DA.go 2 [] (by kernel_rfl) ⟨?_, trivial⟩
          refine DO.w rfl ?_
          refine WP.t .n (O.stW (l := kC) (u := M) 3 rfl rfl rfl ty24 rfl (VP.le_refl _)) ?_
          refine WP.nil ?_
          refine DO.nx ?_
          refine DA.go 3 [] (by kernel_rfl) ⟨?_, trivial⟩
          refine DO.w rfl ?_
          refine WP.t .n (O.stW (l := kC) (u := R) 2 rfl rfl rfl ty24 rfl (VP.le_refl _)) ?_
          refine WP.nil ?_
          refine DO.nx ?_
          refine DA.go 4 [] (by kernel_rfl) ⟨?_, trivial⟩
          refine DO.w rfl ?_
          refine WP.s .n (O.asg rfl) ?_
          refine WP.nil ?_
          refine DO.nx ?_
          refine DA.nil (by kernel_rfl) ?_
          refine QE.next ?_
          refine CW.ret ?_
          have hf := floor_1 hx hl h5 (by rw [← q_v]; exact h_t45)
          refine ST.obtold 3 rfl (OB.box_eq (y := (x.fdiv y)) hf.1) ?_
          refine ST.obtold 2 rfl (OB.box_eq (y := (if y = 0 then 0 else x.fmod y)) (by rw [if_neg hy]; exact hf.2)) ?_
          refine ST.told 6 rfl (is_eq (y := (if y = 0 then 11 else 0)) (by rw [if_neg hy])) ?_
          exact QE.done (.inl rfl) rfl (ResOk.c rfl (mem_at 3 rfl) ty24 (ResOk.c rfl (mem_at 2 rfl) ty24 (ResOk.t rfl ResOk.nil))) (OImp.sub (List.nil_sublist _)) ⟨rfl, rfl⟩
    · refine CW.draw (Γ := [.fr (kC.is R), .fr ((kInt .i64).is R.sign), .fr (kBool.is false), .fr (kBool.is false), .fr VP.tt, .fr VP.tt, .fr VP.tt, .fr VP.tt, .fr VP.tt, .fr (kBool.is false)]) (lates := [false, false, false, false, false, false, false, false, false, false]) (by kernel_rfl) (Chk.of rfl (by kernel_rfl) rfl) (fun _ _ _ _ _ h => h) (fun q_ x_ h_ => ?_) (fun σ => ?_)
      · match q_, h_ with
        | 0, h_ => cases h_; exact Ob.f rfl .n fun N => (O.ld rfl (mem_app N (mem_at 1 rfl)) (Lens.id _) ty24 rfl)
        | 1, h_ => cases h_; exact Ob.f rfl .n fun N => (O.fn fn18 (evs.l rfl (kC_Z (by assumption)) evs.nil) (c_zint_Sign R))
        | 2, h_ => cases h_; exact Ob.f rfl .n fun N => (OpOk.le (O.ne rfl rfl) (is_eq (by simp at h5; simp [h5])))
        | 3, h_ => cases h_; exact Ob.f rfl .n fun N => (O.mv rfl)
        | 4, h_ => cases h_; exact Ob.k (b := false) rfl rfl rfl
        | 5, h_ => cases h_; exact Ob.k (b := false) rfl rfl rfl
        | 6, h_ => cases h_; exact Ob.k (b := false) rfl rfl rfl
        | 7, h_ => cases h_; exact Ob.k (b := false) rfl rfl rfl
        | 8, h_ => cases h_; exact Ob.k (b := false) rfl rfl rfl
        | 9, h_ => cases h_; exact Ob.f rfl .n fun N => (O.pickF rfl rfl)
        | n_ + 10, h_ => simp at h_
      refine WP.nil ?_
      refine QE.next ?_
      refine CW.condF rfl ?_
      refine CW.skip ?_
      refine QE.next ?_
      refine CW.seq ?_
      refine CW.any (by kernel_rfl) ?_
      refine DA.go 0 [1] (by kernel_rfl) ⟨?_, ⟨?_, trivial⟩⟩
      · refine DO.w rfl ?_
        refine WP.s .n (O.ld rfl (mem_at 0 rfl) (Lens.id _) ty24 rfl) ?_
        refine WP.nil ?_
        refine DO.nx ?_
        refine DA.go 1 [2] (by kernel_rfl) ⟨?_, ⟨?_, trivial⟩⟩
        · refine DO.w rfl ?_
          refine WP.s .n (O.ld rfl (mem_at 1 rfl) (Lens.id _) ty24 rfl) ?_
          refine WP.nil ?_
          refine DO.nx ?_
          refine DA.go 2 [] (by kernel_rfl) ⟨?_, trivial⟩
          refine DO.w rfl ?_
          refine WP.t .n (O.stW (l := kC) (u := M) 3 rfl rfl rfl ty24 rfl (VP.le_refl _)) ?_
          refine WP.nil ?_
          refine DO.nx ?_
          refine DA.go 3 [] (by kernel_rfl) ⟨?_, trivial⟩
          refine DO.w rfl ?_
          refine WP.t .n (O.stW (l := kC) (u := R) 2 rfl rfl rfl ty24 rfl (VP.le_refl _)) ?_
          refine WP.nil ?_
          refine DO.nx ?_
          refine DA.go 4 [] (by kernel_rfl) ⟨?_, trivial⟩
          refine DO.w rfl ?_
          refine WP.s .n (O.asg rfl) ?_
          refine WP.nil ?_
          refine DO.nx ?_
          refine DA.nil (by kernel_rfl) ?_
          refine QE.next ?_
          refine CW.ret ?_
          have hf := floor_0 hx hl h5
          refine ST.obtold 3 rfl (OB.box_eq (y := (x.fdiv y)) hf.1) ?_
          refine ST.obtold 2 rfl (OB.box_eq (y := (if y = 0 then 0 else x.fmod y)) (by rw [if_neg hy]; exact hf.2)) ?_
          refine ST.told 6 rfl (is_eq (y := (if y = 0 then 11 else 0)) (by rw [if_neg hy])) ?_
          exact QE.done (.inl rfl) rfl (ResOk.c rfl (mem_at 3 rfl) ty24 (ResOk.c rfl (mem_at 2 rfl) ty24 (ResOk.t rfl ResOk.nil))) (OImp.sub (List.nil_sublist _)) ⟨rfl, rfl⟩
        · refine DO.w rfl ?_
          refine WP.t .n (O.stW (l := kC) (u := M) 3 rfl rfl rfl ty24 rfl (VP.le_refl _)) ?_
          refine WP.nil ?_
          refine DO.nx ?_
          refine DA.go 1 [] (by kernel_rfl) ⟨?_, trivial⟩
          refine DO.w rfl ?_
          refine WP.s .n (O.ld rfl (mem_at 1 rfl) (Lens.id _) ty24 rfl) ?_
          refine WP.nil ?_
          refine DO.nx ?_
          refine DA.go 3 [] (by kernel_rfl) ⟨?_, trivial⟩
          refine DO.w rfl ?_
          refine WP.t .n (O.stW (l := kC) (u := R) 2 rfl rfl rfl ty24 rfl (VP.le_refl _)) ?_
          refine WP.nil ?_
          refine DO.nx ?_
          refine DA.go 4 [] (by kernel_rfl) ⟨?_, trivial⟩
          refine DO.w rfl ?_
          refine WP.s .n (O.asg rfl) ?_
          refine WP.nil ?_
          refine DO.nx ?_
          refine DA.nil (by kernel_rfl) ?_
          refine QE.next ?_
          refine CW.ret ?_
          have hf := floor_0 hx hl h5
          refine ST.obtold 3 rfl (OB.box_eq (y := (x.fdiv y)) hf.1) ?_
          refine ST.obtold 2 rfl (OB.box_eq (y := (if y = 0 then 0 else x.fmod y)) (by rw [if_neg hy]; exact hf.2)) ?_
          refine ST.told 6 rfl (is_eq (y := (if y = 0 then 11 else 0)) (by rw [if_neg hy])) ?_
          exact QE.done (.inl rfl) rfl (ResOk.c rfl (mem_at 3 rfl) ty24 (ResOk.c rfl (mem_at 2 rfl) ty24 (ResOk.t rfl ResOk.nil))) (OImp.sub (List.nil_sublist _)) ⟨rfl, rfl⟩
      · refine DO.w rfl ?_
        refine WP.s .n (O.ld rfl (mem_at 1 rfl) (Lens.id _) ty24 rfl) ?_
        refine WP.nil ?_
        refine DO.nx ?_
        refine DA.go 0 [] (by kernel_rfl) ⟨?_, trivial⟩
        refine DO.w rfl ?_
        refine WP.s .n (O.ld rfl (mem_at 0 rfl) (Lens.id _) ty24 rfl) ?_
        refine WP.nil ?_
        refine DO.nx ?_
        refine DA.go 2 [] (by kernel_rfl) ⟨?_, trivial⟩
        refine DO.w rfl ?_
        refine WP.t .n (O.stW (l := kC) (u := M) 3 rfl rfl rfl ty24 rfl (VP.le_refl _)) ?_
        refine WP.nil ?_
        refine DO.nx ?_
        refine DA.go 3 [] (by kernel_rfl) ⟨?_, trivial⟩
        refine DO.w rfl ?_
        refine WP.t .n (O.stW (l := kC) (u := R) 2 rfl rfl rfl ty24 rfl (VP.le_refl _)) ?_
        refine WP.nil ?_
        refine DO.nx ?_
        refine DA.go 4 [] (by kernel_rfl) ⟨?_, trivial⟩
        refine DO.w rfl ?_
        refine WP.s .n (O.asg rfl) ?_
        refine WP.nil ?_
        refine DO.nx ?_
        refine DA.nil (by kernel_rfl) ?_
        refine QE.next ?_
        refine CW.ret ?_
        have hf := floor_0 hx hl h5
        refine ST.obtold 3 rfl (OB.box_eq (y := (x.fdiv y)) hf.1) ?_
        refine ST.obtold 2 rfl (OB.box_eq (y := (if y = 0 then 0 else x.fmod y)) (by rw [if_neg hy]; exact hf.2)) ?_
        refine ST.told 6 rfl (is_eq (y := (if y = 0 then 11 else 0)) (by rw [if_neg hy])) ?_
        exact QE.done (.inl rfl) rfl (ResOk.c rfl (mem_at 3 rfl) ty24 (ResOk.c rfl (mem_at 2 rfl) ty24 (ResOk.t rfl ResOk.nil))) (OImp.sub (List.nil_sublist _)) ⟨rfl, rfl⟩

end Fw


/- What Exact of layer 2 answers. -/
set_option linter.unusedVariables false
set_option linter.unusedSimpArgs false
set_option exponentiation.threshold 70
namespace Fw
open Go Go.Proofs

end Fw


/- Plain facts: rationals in lowest terms, bits of vectors and matrices, the rows of a sum. -/
set_option linter.unusedVariables false
set_option linter.unusedSimpArgs false
set_option exponentiation.threshold 400
namespace Fw
open Go

/-! ### Sizes -/
/-- Of at most n bits. -/
def Sz (n : Nat) (z : Int) : Prop := z.natAbs < 2 ^ n
theorem Sz.up {n m : Nat} {z : Int} (h : Sz n z) (hm : n ≤ m) : Sz m z := Nat.lt_of_lt_of_le h (Nat.pow_le_pow_right (by decide) hm)
theorem Sz.sm {n : Nat} {z : Int} (h : Sz n z) (hm : n ≤ 549755813888) : Sm z := Sm_of h hm
theorem Sz.neg {n : Nat} {z : Int} (h : Sz n z) : Sz n (-z) := by unfold Sz at *; rwa [Int.natAbs_neg]
theorem Sz.add {n m : Nat} {x y : Int} (h : Sz n x) (k : Sz m y) : Sz (n + m + 1) (x + y) := by
  unfold Sz at *
  have h1 : (x + y).natAbs ≤ x.natAbs + y.natAbs := Int.natAbs_add_le x y
  have h2 : 2 ^ n ≤ 2 ^ (n + m) := Nat.pow_le_pow_right (by decide) (by omega)
  have h3 : 2 ^ m ≤ 2 ^ (n + m) := Nat.pow_le_pow_right (by decide) (by omega)
  rw [Nat.pow_succ]
  omega
theorem Sz.max {n m : Nat} {x y : Int} (h : Sz n x) (k : Sz m y) : Sz (Nat.max n m + 1) (x + y) := by
  have h' := Sz.up h (Nat.le_max_left n m)
  have k' := Sz.up k (Nat.le_max_right n m)
  unfold Sz at *
  have h1 : (x + y).natAbs ≤ x.natAbs + y.natAbs := Int.natAbs_add_le x y
  have e : Max.max n m = Nat.max n m := rfl
  rw [e] at h' k'
  rw [Nat.pow_succ]
  omega
theorem Sz.sub {n m : Nat} {x y : Int} (h : Sz n x) (k : Sz m y) : Sz (n + m + 1) (x - y) := by
  rw [Int.sub_eq_add_neg]; exact h.add k.neg
theorem Sz.mul {n m : Nat} {x y : Int} (h : Sz n x) (k : Sz m y) : Sz (n + m) (x * y) := by
  unfold Sz at *
  rw [Int.natAbs_mul, Nat.pow_add]
  exact Nat.mul_lt_mul'' h k
theorem Sz.le {n : Nat} {x y : Int} (h : Sz n x) (hl : y.natAbs ≤ x.natAbs) : Sz n y := Nat.lt_of_le_of_lt hl h
theorem Sz.zero (n : Nat) : Sz n 0 := Nat.two_pow_pos n

/-! ### Rationals -/
def rmk (n d : Int) : Int × Int := ((n * d.sign).fdiv (Int.gcd n d), (d.natAbs : Int).fdiv (Int.gcd n d))
/-! ### Bits -/
def vbF (n : Int) (x : Int) : Int := max n (bitlen x.natAbs : Int)
def vbN (n : Int) (v : List Int) : Int := v.foldl vbF n
def mbits (b : List (List Int)) : Int := b.foldl vbN 0
theorem vbN_s {n : Int} {v : List Int} {i : Nat} (hi : i < v.length) : max (vbN n (v.take i)) (bitlen (v.getD i 0).natAbs : Int) = vbN n (v.take (i + 1)) := by
  rw [← take_app (d := 0) hi]; unfold vbN; rw [List.foldl_append]; rfl
theorem vbN_ge (n : Int) : ∀ v : List Int, n ≤ vbN n v
  | [] => Int.le_refl n
  | x :: v => by
    have := vbN_ge (vbF n x) v
    have h2 : n ≤ vbF n x := Int.le_max_left _ _
    exact Int.le_trans h2 this
theorem vbN_mem : ∀ {v : List Int} {n : Int} {x : Int}, x ∈ v → (bitlen x.natAbs : Int) ≤ vbN n v
  | y :: v, n, x, h => by
    rcases List.mem_cons.1 h with e | h
    · subst e
      exact Int.le_trans (Int.le_max_right _ _) (vbN_ge (vbF n x) v)
    · exact vbN_mem (v := v) (n := vbF n y) h
theorem mb_s {b : List (List Int)} {i : Nat} (hi : i < b.length) : vbN ((b.take i).foldl vbN 0) (b.getD i []) = (b.take (i + 1)).foldl vbN 0 := by
  rw [← take_app (d := []) hi, List.foldl_append]; rfl
theorem mb_done {b : List (List Int)} {i k : Nat} (hi : i < b.length) (hk : (b.getD i []).length ≤ k) : vbN ((b.take i).foldl vbN 0) ((b.getD i []).take k) = (b.take (i + 1)).foldl vbN 0 := by
  rw [List.take_of_length_le hk]; exact mb_s hi
/-! ### Density, sums, rows -/
end Fw


/- Rationals in lowest terms; the document's floor. -/
set_option linter.unusedVariables false
set_option linter.unusedSimpArgs false
set_option exponentiation.threshold 400
namespace Fw
open Go Go.Proofs

end Fw


/- Plain facts: Gauss's steps on binary forms. -/
set_option linter.unusedVariables false
set_option linter.unusedSimpArgs false
set_option exponentiation.threshold 400
namespace Fw
open Go

def posF (A B C : Int) : Prop := 0 < A ∧ B * B < 4 * (A * C)
instance (A B C : Int) : Decidable (posF A B C) := by unfold posF; infer_instance
def kF (A B : Int) : Int := (A - B).fdiv (A + A)
def sB (A B : Int) : Int := B + (A * kF A B + A * kF A B)
def sC (A B C : Int) : Int := (A * kF A B + B) * kF A B + C
def redF (A B C : Int) : Prop := A < C ∨ (A = C ∧ 0 ≤ B)
instance (A B C : Int) : Decidable (redF A B C) := by unfold redF; infer_instance
def gFlag (A B : Int) : Nat := if 0 ≤ B ∧ B ≤ A then 0 else 1
theorem sq_nn (x : Int) : 0 ≤ x * x := by
  rcases Int.le_total 0 x with h | h
  · exact Int.mul_nonneg h h
  · exact Int.mul_nonneg_of_nonpos_of_nonpos h h
theorem kF_rng {A B : Int} (hA : 0 < A) : A * kF A B + A * kF A B ≤ A - B ∧ A - B < A * kF A B + A * kF A B + (A + A) := by
  have h1 := Int.fmod_nonneg_of_pos (A - B) (show 0 < A + A by omega)
  have h2 := Int.fmod_lt_of_pos (A - B) (show 0 < A + A by omega)
  have h3 := Int.mul_fdiv_add_fmod (A - B) (A + A)
  have h4 : (A + A) * (A - B).fdiv (A + A) = A * kF A B + A * kF A B := by unfold kF; rw [Int.add_mul]
  omega
theorem sB_rng {A B : Int} (hA : 0 < A) : -A < sB A B ∧ sB A B ≤ A := by
  have := kF_rng (B := B) hA
  unfold sB; omega
theorem disc_s (A B C : Int) : sB A B * sB A B - 4 * (A * sC A B C) = B * B - 4 * (A * C) := by
  unfold sB sC
  generalize kF A B = k
  grind
theorem pos_s {A B C : Int} (h : posF A B C) : sB A B * sB A B < 4 * (A * sC A B C) ∧ 0 < sC A B C := by
  have h1 := disc_s A B C
  have h2 : sB A B * sB A B < 4 * (A * sC A B C) := by have := h.2; omega
  refine ⟨h2, ?_⟩
  have h3 := sq_nn (sB A B)
  rcases Int.lt_or_le 0 (sC A B C) with h4 | h4
  · exact h4
  · have := Int.mul_nonpos_of_nonneg_of_nonpos (Int.le_of_lt h.1) h4
    omega
theorem pos_next {A B C : Int} (h : posF A B C) : posF (sC A B C) (-(sB A B)) A := by
  obtain ⟨h1, h2⟩ := pos_s h
  refine ⟨h2, ?_⟩
  rw [Int.neg_mul_neg, Int.mul_comm (sC A B C)]
  exact h1
theorem kF_0 {A B : Int} (hA : 0 < A) (h : 0 ≤ B ∧ B ≤ A) : kF A B = 0 := by
  unfold kF
  rw [Int.fdiv_eq_ediv_of_nonneg _ (by omega)]
  exact Int.ediv_eq_zero_of_lt (by omega) (by omega)
theorem g_dec {A B C : Int} (h : posF A B C ∧ ¬ redF A (sB A B) (sC A B C)) : 2 * (sC A B C).toNat + gFlag (sC A B C) (-(sB A B)) < 2 * A.toNat + gFlag A B := by
  obtain ⟨hp, hr⟩ := h
  obtain ⟨h1, h2⟩ := pos_s hp
  have hA := hp.1
  have h3 := sB_rng (B := B) hA
  unfold redF at hr
  by_cases hc : sC A B C < A
  · have h4 : gFlag (sC A B C) (-(sB A B)) ≤ 1 := by unfold gFlag; split <;> omega
    omega
  · have h5 : A = sC A B C := by omega
    have h6 : sB A B < 0 := by omega
    have h7 : gFlag (sC A B C) (-(sB A B)) = 0 := by unfold gFlag; rw [if_pos (by omega)]
    have h8 : gFlag A B = 1 := by
      unfold gFlag
      rw [if_neg]
      intro h9
      have := kF_0 hA h9
      have h10 : sB A B = B := by unfold sB; rw [this]; omega
      omega
    omega
/-- Gauss's steps, with what they change. -/
def gs (A B C x y z t : Int) : (Int × Int × Int) × List Int :=
  if h : posF A B C ∧ ¬ redF A (sB A B) (sC A B C) then gs (sC A B C) (-(sB A B)) A (y + x * kF A B) (-x) (t + z * kF A B) (-z)
  else ((A, sB A B, sC A B C), [x, y + x * kF A B, z, t + z * kF A B])
termination_by 2 * A.toNat + gFlag A B
decreasing_by exact g_dec h
theorem gs_go {A B C x y z t : Int} (h : posF A B C) (h2 : ¬ redF A (sB A B) (sC A B C)) : gs (sC A B C) (-(sB A B)) A (y + x * kF A B) (-x) (t + z * kF A B) (-z) = gs A B C x y z t := by
  rw [gs.eq_1 A B C x y z t, dif_pos ⟨h, h2⟩]
theorem gs_end {A B C x y z t : Int} (h2 : redF A (sB A B) (sC A B C)) : ((A, sB A B, sC A B C), [x, y + x * kF A B, z, t + z * kF A B]) = gs A B C x y z t := by
  rw [gs.eq_1 A B C x y z t, dif_neg (fun hh => hh.2 h2)]
/-- The reduced form alone. -/
def g1 (A B C : Int) : Int × Int × Int := (gs A B C 1 0 0 1).1
theorem gs_fst (A B C x y z t x' y' z' t' : Int) : (gs A B C x y z t).1 = (gs A B C x' y' z' t').1 := by
  induction A, B, C, x, y, z, t using gs.induct generalizing x' y' z' t' with
  | case1 A B C x y z t h ih =>
    rw [← gs_go h.1 h.2, ← gs_go (x := x') (y := y') (z := z') (t := t') h.1 h.2]
    exact ih _ _ _ _
  | case2 A B C x y z t h =>
    rw [gs.eq_1 A B C x y z t, gs.eq_1 A B C x' y' z' t', dif_neg h, dif_neg h]
theorem g1_go {A B C : Int} (h : posF A B C) (h2 : ¬ redF A (sB A B) (sC A B C)) : g1 (sC A B C) (-(sB A B)) A = g1 A B C := by
  unfold g1
  rw [← gs_go (x := 1) (y := 0) (z := 0) (t := 1) h h2]
  exact gs_fst ..
theorem g1_end {A B C : Int} (h2 : redF A (sB A B) (sC A B C)) : (A, sB A B, sC A B C) = g1 A B C := by
  unfold g1
  rw [← gs_end (x := 1) (y := 0) (z := 0) (t := 1) h2]

/-! ### What the change makes -/
def tv (A B C x y : Int) : Int := A * (x * x) + B * (x * y) + C * (y * y)
structure TR (A0 B0 C0 A B C x y z t : Int) : Prop where
  a : tv A0 B0 C0 x z = A
  c : tv A0 B0 C0 y t = C
  b : tv A0 B0 C0 (x + y) (z + t) - (tv A0 B0 C0 x z + tv A0 B0 C0 y t) = B
  d : x * t - y * z = 1
theorem TR_0 (A B C : Int) : TR A B C A B C 1 0 0 1 := by
  constructor <;> (try unfold tv) <;> grind
theorem TR_s {A0 B0 C0 A B C x y z t : Int} (h : TR A0 B0 C0 A B C x y z t) : TR A0 B0 C0 A (sB A B) (sC A B C) x (y + x * kF A B) z (t + z * kF A B) := by
  obtain ⟨h1, h2, h3, h4⟩ := h
  unfold tv at *
  unfold sB sC
  generalize kF A B = k
  constructor <;> (try unfold tv) <;> grind
theorem TR_n {A0 B0 C0 A B C x y z t : Int} (h : TR A0 B0 C0 A B C x y z t) : TR A0 B0 C0 C (-B) A y (-x) t (-z) := by
  obtain ⟨h1, h2, h3, h4⟩ := h
  unfold tv at *
  constructor <;> (try unfold tv) <;> grind
theorem tv_bd {A B C x y V : Int} (h : posF A B C) (hV : tv A B C x y = V) : y.natAbs ≤ (4 * (A * V)).natAbs ∧ x.natAbs ≤ (4 * (C * V)).natAbs := by
  have hC : 0 < C := by
    have h3 := sq_nn B
    rcases Int.lt_or_le 0 C with h4 | h4
    · exact h4
    · have := Int.mul_nonpos_of_nonneg_of_nonpos (Int.le_of_lt h.1) h4
      have := h.2
      omega
  have e1 : 4 * (A * V) = (2 * A * x + B * y) * (2 * A * x + B * y) + (4 * (A * C) - B * B) * (y * y) := by
    subst hV; unfold tv; grind
  have e2 : 4 * (C * V) = (2 * C * y + B * x) * (2 * C * y + B * x) + (4 * (A * C) - B * B) * (x * x) := by
    subst hV; unfold tv; grind
  have hD : 1 ≤ 4 * (A * C) - B * B := by have := h.2; omega
  have key : ∀ w q : Int, (w.natAbs : Int) ≤ q * q + (4 * (A * C) - B * B) * (w * w) := fun w q => by
    have h1 := sq_nn q
    have h2 := sq_nn w
    have h3 : 1 * (w * w) ≤ (4 * (A * C) - B * B) * (w * w) := Int.mul_le_mul_of_nonneg_right hD h2
    have h4 : (w.natAbs : Int) ≤ w * w := by
      rw [← Int.natAbs_mul_self]
      have : w.natAbs ≤ w.natAbs * w.natAbs := by
        rcases Nat.eq_zero_or_pos w.natAbs with h5 | h5
        · rw [h5]; omega
        · exact Nat.le_mul_of_pos_right _ h5
      exact_mod_cast this
    omega
  have k1 := key y (2 * A * x + B * y)
  have k2 := key x (2 * C * y + B * x)
  rw [← e1] at k1
  rw [← e2] at k2
  omega
theorem Sz_4 (n : Nat) : Sz (n + 3) 4 := by
  unfold Sz
  have : 2 ^ 3 ≤ 2 ^ (n + 3) := Nat.pow_le_pow_right (by decide) (by omega)
  omega
theorem TR_sz {A0 B0 C0 A B C x y z t : Int} {n m : Nat} (hp : posF A0 B0 C0) (h : TR A0 B0 C0 A B C x y z t) (h1 : Sz n A0) (h2 : Sz n C0) (h3 : Sz m A) (h4 : Sz m C) : Sz (n + m + 3) x ∧ Sz (n + m + 3) y ∧ Sz (n + m + 3) z ∧ Sz (n + m + 3) t := by
  have h5 := tv_bd hp h.a
  have h6 := tv_bd hp h.c
  have e : ∀ {u v : Int}, Sz n u → Sz m v → Sz (n + m + 3) (4 * (u * v)) := fun {u v} hu hv => by
    have := (Sz_4 0).mul (hu.mul hv)
    exact this.up (by omega)
  exact ⟨(e h2 h3).le h5.2, (e h2 h4).le h6.2, (e h1 h3).le h5.1, (e h1 h4).le h6.1⟩

/-! ### The steps' numbers -/
structure GsR (n : Nat) (A0 B0 C0 A B C x y z t : Int) : Prop where
  e : gs A B C x y z t = gs A0 B0 C0 1 0 0 1
  p : posF A B C
  a : Sz n A
  b : Sz n B
  c : Sz n C
  r : TR A0 B0 C0 A B C x y z t
theorem gsR_0 {n : Nat} {A B C : Int} (hp : posF A B C) (ha : Sz n A) (hb : Sz n B) (hc : Sz n C) : GsR n A B C A B C 1 0 0 1 := ⟨rfl, hp, ha, hb, hc, TR_0 A B C⟩
theorem gsR_s {n : Nat} {A0 B0 C0 A B C x y z t : Int} (h : GsR n A0 B0 C0 A B C x y z t) (h2 : ¬ redF A (sB A B) (sC A B C)) : GsR n A0 B0 C0 (sC A B C) (-(sB A B)) A (y + x * kF A B) (-x) (t + z * kF A B) (-z) := by
  have h3 := pos_s h.p
  have h4 := sB_rng (B := B) h.p.1
  have h5 : sC A B C ≤ A := by unfold redF at h2; omega
  exact ⟨(gs_go h.p h2).trans h.e, pos_next h.p, h.a.le (by omega), h.a.le (by omega), h.a, TR_n (TR_s h.r)⟩
theorem gsR_end {n : Nat} {A0 B0 C0 A B C x y z t : Int} (h : GsR n A0 B0 C0 A B C x y z t) (h2 : redF A (sB A B) (sC A B C)) : ((A, sB A B, sC A B C), [x, y + x * kF A B, z, t + z * kF A B]) = gs A0 B0 C0 1 0 0 1 := (gs_end h2).trans h.e
theorem kF_abs (A B : Int) : (kF A B).natAbs ≤ (A - B).natAbs := by
  unfold kF
  rcases Int.lt_or_le (A + A) 0 with h | h
  · have : (A - B).fdiv (A + A) = (-(A - B)).fdiv (-(A + A)) := (Int.neg_fdiv_neg _ _).symm
    rw [this, Int.fdiv_eq_ediv_of_nonneg _ (by omega)]
    have := Int.natAbs_ediv_le_natAbs (-(A - B)) (-(A + A))
    rwa [Int.natAbs_neg] at this
  · rw [Int.fdiv_eq_ediv_of_nonneg _ h]
    exact Int.natAbs_ediv_le_natAbs _ _
theorem kF_sz {n : Nat} {A B : Int} (ha : Sz n A) (hb : Sz n B) : Sz (n + n + 1) (kF A B) := (ha.sub hb).le (kF_abs A B)
theorem sC_sz {n : Nat} {A B C : Int} (ha : Sz n A) (hb : Sz n B) (hc : Sz n C) : Sz (7 * n + 10) (sC A B C) := by
  have hk := kF_sz ha hb
  exact ((((ha.mul hk).add hb).mul hk).add hc).up (by omega)
/-- All that the steps make is of modest size. -/
structure GsS (A B C x y z t : Int) : Prop where
  a : Sm A
  b : Sm B
  c : Sm C
  ab : Sm (A - B)
  aa : Sm (A + A)
  k : Sm (kF A B)
  ak : Sm (A * kF A B)
  a2k : Sm (A * kF A B + A * kF A B)
  akb : Sm (A * kF A B + B)
  akbk : Sm ((A * kF A B + B) * kF A B)
  sb : Sm (sB A B)
  sc : Sm (sC A B C)
  ac : Sm (A - sC A B C)
  fx : Sm x
  fy : Sm y
  fz : Sm z
  ft : Sm t
  xk : Sm (x * kF A B)
  zk : Sm (z * kF A B)
  yk : Sm (y + x * kF A B)
  tk : Sm (t + z * kF A B)
  t2 : Sm 2
  ta : Sm (2 * A)
  tak : Sm (2 * A * kF A B)
theorem gsR_S {n : Nat} {A0 B0 C0 A B C x y z t : Int} (hn : n ≤ 200000000) (hp : posF A0 B0 C0) (h1 : Sz n A0) (h2 : Sz n C0) (h : GsR n A0 B0 C0 A B C x y z t) : GsS A B C x y z t := by
  obtain ⟨_, hp1, ha, hb, hc, hr⟩ := h
  obtain ⟨hx, hy, hz, ht⟩ := TR_sz hp hr h1 h2 ha hc
  have hk := kF_sz ha hb
  have hak := ha.mul hk
  have hakb := hak.add hb
  have hsB := sB_rng (B := B) hp1.1
  have h22 : Sz 2 2 := by unfold Sz; decide
  have hsc := sC_sz ha hb hc
  exact ⟨ha.sm (by omega), hb.sm (by omega), hc.sm (by omega), (ha.sub hb).sm (by omega), (ha.add ha).sm (by omega), hk.sm (by omega), hak.sm (by omega), (hak.add hak).sm (by omega), hakb.sm (by omega), (hakb.mul hk).sm (by omega),
    (ha.le (y := sB A B) (by omega)).sm (by omega), hsc.sm (by omega), (ha.sub hsc).sm (by omega), hx.sm (by omega), hy.sm (by omega), hz.sm (by omega), ht.sm (by omega), (hx.mul hk).sm (by omega), (hz.mul hk).sm (by omega), (hy.add (hx.mul hk)).sm (by omega), (ht.add (hz.mul hk)).sm (by omega),
    h22.sm (by omega), (h22.mul ha).sm (by omega), ((h22.mul ha).mul hk).sm (by omega)⟩
/-- What comes of the steps. -/
theorem gs_TR (A0 B0 C0 : Int) (n : Nat) (hp : posF A0 B0 C0) (h1 : Sz n A0) (h2 : Sz n C0) (A B C x y z t : Int) : GsR n A0 B0 C0 A B C x y z t →
    ∃ a b c x' y' z' t', gs A B C x y z t = ((a, b, c), [x', y', z', t']) ∧ TR A0 B0 C0 a b c x' y' z' t' ∧ Sz (7 * n + 10) a ∧ Sz (7 * n + 10) b ∧ Sz (7 * n + 10) c := by
  induction A, B, C, x, y, z, t using gs.induct with
  | case1 A B C x y z t h ih =>
    intro hr
    have := ih (gsR_s hr h.2)
    rwa [gs_go h.1 h.2] at this
  | case2 A B C x y z t h =>
    intro hr
    have hred : redF A (sB A B) (sC A B C) := by
      by_cases h3 : redF A (sB A B) (sC A B C)
      · exact h3
      · exact absurd ⟨hr.p, h3⟩ h
    have hsB := sB_rng (B := B) hr.p.1
    exact ⟨_, _, _, _, _, _, _, (gs_end hred).symm, TR_s hr.r, hr.a.up (by omega), (hr.a.le (y := sB A B) (by omega)).up (by omega), sC_sz hr.a hr.b hr.c⟩
structure DiS (A B C : Int) : Prop where
  bb : Sm (B * B)
  ac : Sm (A * C)
  ac4 : Sm (4 * (A * C))
  f4 : Sm 4
theorem DiS_of {n : Nat} {A B C : Int} (ha : Sz n A) (hb : Sz n B) (hc : Sz n C) (hn : n ≤ 10000000000) : DiS A B C :=
  ⟨(hb.mul hb).sm (by omega), (ha.mul hc).sm (by omega), ((Sz_4 0).mul (ha.mul hc)).sm (by omega), (Sz_4 0).sm (by omega)⟩
/-- Sizes of a shift. -/
structure ShS (A B C k : Int) : Prop where
  a : Sm A
  b : Sm B
  c : Sm C
  ak : Sm (A * k)
  a2k : Sm (A * k + A * k)
  akb : Sm (A * k + B)
  akbk : Sm ((A * k + B) * k)
theorem GsS.sh {A B C x y z t : Int} (h : GsS A B C x y z t) : ShS A B C (kF A B) := ⟨h.a, h.b, h.c, h.ak, h.a2k, h.akb, h.akbk⟩
theorem sgn_p {a : Int} (h : 0 < a) : 0 < a.sign := by rw [Int.sign_eq_one_of_pos h]; decide
theorem sgn_np {a : Int} (h : ¬ 0 < a) : ¬ 0 < a.sign := fun h1 => by
  rcases Int.lt_trichotomy a 0 with h2 | h2 | h2
  · rw [Int.sign_eq_neg_one_of_neg h2] at h1; omega
  · subst h2; simp at h1
  · exact h h2
theorem sgn_lti {a b : Int} : (a - b).sign < 0 ↔ a < b := by
  constructor
  · intro h; have := sgn_lt0 h; omega
  · intro h; rw [Int.sign_eq_neg_one_of_neg (by omega)]; decide
theorem sound_t {A B C : Int} (h : 0 < A) : decide ((B * B - 4 * (A * C)).sign < 0) = decide (posF A B C) := by
  rw [decide_eq_decide, sgn_lti]
  unfold posF
  exact ⟨fun h1 => ⟨h, h1⟩, fun h1 => h1.2⟩
theorem sound_f {A B C : Int} (h : ¬ 0 < A) : false = decide (posF A B C) := by
  rw [eq_comm, decide_eq_false_iff_not]
  exact fun h1 => h h1.1
theorem red_t {A B C : Int} (h : (A - C).sign < 0) : redF A B C := .inl (sgn_lti.1 h)
theorem red_e {A B C : Int} (h : (A - C).sign = 0) (h2 : 0 ≤ B.sign) : redF A B C := .inr ⟨by have := Int.sign_eq_zero_iff_zero.1 h; omega, by
  rcases Int.lt_or_le B 0 with h3 | h3
  · rw [Int.sign_eq_neg_one_of_neg h3] at h2; omega
  · exact h3⟩
theorem nred_b {A B C : Int} (h0 : ¬ (A - C).sign < 0) (h2 : ¬ 0 ≤ B.sign) : ¬ redF A B C := by
  rintro (h | ⟨_, h⟩)
  · exact h0 (sgn_lti.2 h)
  · apply h2
    rcases Int.lt_trichotomy B 0 with h3 | h3 | h3
    · omega
    · subst h3; decide
    · rw [Int.sign_eq_one_of_pos h3]; decide
theorem nred_e {A B C : Int} (h0 : ¬ (A - C).sign < 0) (h2 : ¬ (A - C).sign = 0) : ¬ redF A B C := by
  rintro (h | ⟨h, _⟩)
  · exact h0 (sgn_lti.2 h)
  · apply h2; rw [h]; simp
theorem gs_dec' {A B C : Int} (hp : posF A B C) (h : ¬ redF A (sB A B) (sC A B C)) : 2 * (sC A B C).toNat + gFlag (sC A B C) (-(sB A B)) < 2 * A.toNat + gFlag A B := g_dec ⟨hp, h⟩
end Fw


/- Plain facts: what the functions on binary forms answer. -/
set_option linter.unusedVariables false
set_option linter.unusedSimpArgs false
set_option exponentiation.threshold 400
namespace Fw
open Go

def oneV (A B C D E F : Int) : Bool × Int := if posF A B C ∧ posF D E F then (decide (g1 A B C = g1 D E F), 0) else (false, 221)
theorem oneV_n {A B C D E F : Int} (h : ¬ (posF A B C ∧ posF D E F)) : oneV A B C D E F = (false, 221) := by unfold oneV; rw [if_neg h]
theorem oneV_p {A B C D E F : Int} (h1 : posF A B C) (h2 : posF D E F) : oneV A B C D E F = (decide (g1 A B C = g1 D E F), 0) := by unfold oneV; rw [if_pos ⟨h1, h2⟩]
theorem eq3_t {p q : Int × Int × Int} (h1 : (p.1 - q.1).sign = 0) (h2 : (p.2.1 - q.2.1).sign = 0) : decide ((p.2.2 - q.2.2).sign = 0) = decide (p = q) := by
  have e1 := sgn_eq h1
  have e2 := sgn_eq h2
  rw [decide_eq_decide]
  constructor
  · intro h3; exact Prod.ext e1 (Prod.ext e2 (sgn_eq h3))
  · intro h3; rw [h3]; simp
theorem eq3_b {p q : Int × Int × Int} (h2 : ¬ (p.2.1 - q.2.1).sign = 0) : false = decide (p = q) := by
  rw [eq_comm, decide_eq_false_iff_not]
  intro h; apply h2; rw [h]; simp
theorem eq3_a {p q : Int × Int × Int} (h2 : ¬ (p.1 - q.1).sign = 0) : false = decide (p = q) := by
  rw [eq_comm, decide_eq_false_iff_not]
  intro h; apply h2; rw [h]; simp
/-- All of the end: numbers, what holds of them, sizes. -/
theorem gs_all {A B C : Int} {n : Nat} (hn : n ≤ 100000000) (hp : posF A B C) (ha : Sz n A) (hb : Sz n B) (hc : Sz n C) :
    ∃ a b c x y z t, gs A B C 1 0 0 1 = ((a, b, c), [x, y, z, t]) ∧ TR A B C a b c x y z t ∧ Sz (8 * n + 13) a ∧ Sz (8 * n + 13) b ∧ Sz (8 * n + 13) c ∧ Sz (8 * n + 13) x ∧ Sz (8 * n + 13) y ∧ Sz (8 * n + 13) z ∧ Sz (8 * n + 13) t := by
  obtain ⟨a, b, c, x, y, z, t, h1, h2, h3, h4, h5⟩ := gs_TR A B C n hp ha hc A B C 1 0 0 1 (gsR_0 hp ha hb hc)
  obtain ⟨hx, hy, hz, ht⟩ := TR_sz hp h2 ha hc h3 h5
  exact ⟨a, b, c, x, y, z, t, h1, h2, h3.up (by omega), h4.up (by omega), h5.up (by omega), hx.up (by omega), hy.up (by omega), hz.up (by omega), ht.up (by omega)⟩
theorem gs_Sz {A B C : Int} {n : Nat} (hn : n ≤ 100000000) (hp : posF A B C) (ha : Sz n A) (hb : Sz n B) (hc : Sz n C) : Sz (8 * n + 13) (gs A B C 1 0 0 1).1.1 ∧ Sz (8 * n + 13) (gs A B C 1 0 0 1).1.2.1 ∧ Sz (8 * n + 13) (gs A B C 1 0 0 1).1.2.2 := by
  obtain ⟨a, b, c, x, y, z, t, h1, _, h3, h4, h5, _⟩ := gs_all hn hp ha hb hc
  rw [h1]; exact ⟨h3, h4, h5⟩
theorem gs_Sm {A B C : Int} {n : Nat} (hn : n ≤ 100000000) (hp : posF A B C) (ha : Sz n A) (hb : Sz n B) (hc : Sz n C) : Sm (gs A B C 1 0 0 1).1.1 ∧ Sm (gs A B C 1 0 0 1).1.2.1 ∧ Sm (gs A B C 1 0 0 1).1.2.2 := by
  obtain ⟨h1, h2, h3⟩ := gs_Sz hn hp ha hb hc
  exact ⟨h1.sm (by omega), h2.sm (by omega), h3.sm (by omega)⟩
def GV (A B C : Int) : (Int × Int × Int) × List Int × Int := if posF A B C then ((gs A B C 1 0 0 1).1, (gs A B C 1 0 0 1).2, 0) else ((0, 0, 0), List.replicate 4 0, 221)
theorem GV_p {A B C : Int} (h : posF A B C) : GV A B C = ((gs A B C 1 0 0 1).1, (gs A B C 1 0 0 1).2, 0) := by unfold GV; rw [if_pos h]
theorem GV_n {A B C : Int} (h : ¬ posF A B C) : GV A B C = ((0, 0, 0), List.replicate 4 0, 221) := by unfold GV; rw [if_neg h]
theorem Dis_Sm {A B C : Int} {n : Nat} (ha : Sz n A) (hb : Sz n B) (hc : Sz n C) (hn : n ≤ 10000000000) : Sm (B * B - 4 * (A * C)) := ((hb.mul hb).sub ((Sz_4 0).mul (ha.mul hc))).sm (by omega)
end Fw

