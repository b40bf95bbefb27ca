/- What Div and Gcd of layer 1 answer. -/
import Derived.Test.YtgbafijcklgajaaQNi
import Derived.Test.YtgbafijcklgajaaNf
import Derived.Test.YtgbafijcklgajaaNh
set_option linter.unusedVariables false
set_option linter.unusedSimpArgs false
set_option exponentiation.threshold 70
namespace Fw
open Go Go.Proofs

set_option maxRecDepth 20000 in
set_option maxHeartbeats 1000000 in
theorem c_nat_Div (a b : List Nat) (hA : a.length ≤ 549755813000) (hB : b.length ≤ 549755813000) : Fn Try.prog 169 [kN.is a, kN.is b] (VP.tup [kN.is (limbs (nval a / nval b)), kN.is (if nval b = 0 then [] else limbs (nval a % nval b)), (kInt .i64).is (if nval b = 0 then 11 else 0)]) := by
  refine Con.enter Try.func169 rfl rfl fun m w => ?_
  refine ST.fact (i := 0) rfl kN_lims fun la => ?_
  refine ST.fact (i := 1) rfl kN_lims fun lb => ?_
  have hla := limbs_len_le la
  have hlb := limbs_len_le lb
  have lA := limbs_lims (nval a)
  have lB := limbs_lims (nval b)
  refine CW.seq ?_
  refine CW.region ?_
  refine WP.s .n (O.asg rfl) ?_
  refine WP.s .n (O.asg rfl) ?_
  refine WP.s .n (O.asg rfl) ?_
  refine WP.nil ?_
  refine QE.next ?_
  refine CW.seq ?_
  refine CW.region ?_
  refine WP.s .n (O.mv rfl) ?_
  refine WP.s .n (O.fn fn197 (evs.c rfl evs.nil) (c_nat_trim a)) ?_
  refine WP.s .n (O.mv rfl) ?_
  refine WP.s .n (O.fn fn197 (evs.c rfl evs.nil) (c_nat_trim b)) ?_
  refine WP.s .n (O.asg rfl) ?_
  refine WP.s .n (O.asg rfl) ?_
  refine WP.nil ?_
  refine QE.next ?_
  refine CW.seq ?_
  refine CW.block ?_
  refine CW.seq ?_
  refine CW.region ?_
  refine WP.s .n (O.mv rfl) ?_
  refine WP.s .n (O.lenS rfl Try.underlying29) ?_
  refine WP.s .n (O.eq rfl rfl) ?_
  refine WP.s .n (O.asg rfl) ?_
  refine WP.nil ?_
  refine QE.next ?_
  refine CW.condD rfl (fun h_t18 => ?_) (fun h_t18 => ?_)
  · have hb0 : nval b = 0 := limbs0 (by omega)
    refine CW.seq ?_
    refine CW.region ?_
    refine WP.s .n (O.asg rfl) ?_
    refine WP.s .n (O.asg rfl) ?_
    refine WP.s .n (O.asg rfl) ?_
    refine WP.nil ?_
    refine QE.next ?_
    refine CW.ret ?_
    refine QE.blkR ?_
    refine QE.thenR ?_
    refine ST.told (q := kN.is ([] : List Nat)) 4 rfl (nil_le _) ?_
    refine ST.told (q := kN.is ([] : List Nat)) 5 rfl (nil_le _) ?_
    refine ST.told 4 rfl (is_eq (y := (limbs (nval a / nval b))) (by rw [hb0, Nat.div_zero, limbs_zero])) ?_
    refine ST.told 5 rfl (is_eq (y := (if nval b = 0 then [] else limbs (nval a % nval b))) (by rw [if_pos hb0])) ?_
    refine ST.told 6 rfl (is_eq (y := (if nval b = 0 then 11 else 0)) (by rw [if_pos hb0])) ?_
    exact QE.done (.inl rfl) rfl (ResOk.t rfl (ResOk.t rfl (ResOk.t rfl ResOk.nil))) (OImp.sub (List.nil_sublist _)) ⟨rfl, rfl⟩
  · have hb0 : nval b ≠ 0 := fun h => by rw [h, limbs_zero] at h_t18; exact h_t18 rfl
    have hlbp := limbs_len_pos hb0
    refine CW.seq ?_
    refine CW.region ?_
    refine WP.s .n (O.mv rfl) ?_
    refine WP.s .n (O.mv rfl) ?_
    refine WP.s .n (O.fn fn148 (evs.c rfl (evs.c rfl evs.nil)) (c_nat_Cmp (limbs (nval a)) (limbs (nval b)))) ?_
    refine WP.s .n (O.lt rfl rfl) ?_
    refine WP.s .n (O.asg rfl) ?_
    refine WP.nil ?_
    refine QE.next ?_
    refine CW.condD rfl (fun h_t22 => ?_) (fun h_t22 => ?_)
    · refine CW.seq ?_
      refine CW.region ?_
      refine WP.s .n (O.mv rfl) ?_
      refine WP.s .n (O.fn fn208 (evs.c rfl evs.nil) (c_nat_Norm (limbs (nval a)))) ?_
      refine WP.s .n (O.asg rfl) ?_
      refine WP.s .n (O.asg rfl) ?_
      refine WP.s .n (O.asg rfl) ?_
      refine WP.nil ?_
      refine QE.next ?_
      refine CW.ret ?_
      refine QE.blkR ?_
      refine QE.thenR ?_
      have hlt : nval a < nval b := by have := cmpI_lt h_t22; rwa [nval_limbs, nval_limbs] at this
      refine ST.told (q := kN.is ([] : List Nat)) 4 rfl (nil_le _) ?_
      refine ST.told 4 rfl (is_eq (y := (limbs (nval a / nval b))) (by rw [Nat.div_eq_of_lt hlt, limbs_zero])) ?_
      refine ST.told 5 rfl (is_eq (y := (if nval b = 0 then [] else limbs (nval a % nval b))) (by rw [if_neg hb0, nval_limbs, Nat.mod_eq_of_lt hlt])) ?_
      refine ST.told 6 rfl (is_eq (y := (if nval b = 0 then 11 else 0)) (by rw [if_neg hb0])) ?_
      exact QE.done (.inl rfl) rfl (ResOk.t rfl (ResOk.t rfl (ResOk.t rfl ResOk.nil))) (OImp.sub (List.nil_sublist _)) ⟨rfl, rfl⟩
    · have hab : nval b ≤ nval a := by have := cmpI_ge h_t22; rwa [nval_limbs, nval_limbs] at this
      have hll := limbs_mono hab
      refine CW.seq ?_
      refine CW.region ?_
      refine WP.s .n (O.mv rfl) ?_
      refine WP.s .n (O.lenS rfl Try.underlying29) ?_
      refine WP.s .n (O.eq rfl rfl) ?_
      refine WP.s .n (O.asg rfl) ?_
      refine WP.nil ?_
      refine QE.next ?_
      refine CW.condD rfl (fun h_t29 => ?_) (fun h_t29 => ?_)
      · refine CW.seq ?_
        have hx0 := getD_lt lB 0
        refine CW.region ?_
        refine WP.s .n (O.mv rfl) ?_
        refine WP.s .n (O.mv rfl) ?_
        refine WP.s .n (O.ix 0 rfl rfl Try.underlying29 ty121 rfl (v := ((limbs (nval b)).getD 0 0)) (gd 0 (by first | omega | (simp; omega)))) ?_
        refine WP.s .n (OpOk.le (O.ldP rfl ty121) (limb_le _)) ?_
        refine WP.s .n (O.fn fn209 (evs.c rfl (evs.l rfl (u32_limb (x := ((limbs (nval b)).getD 0 0)) (by omega)) evs.nil)) (c_nat_short (limbs (nval a)) ((limbs (nval b)).getD 0 0) (by rw [one_limb (by omega)]; exact hb0))) ?_
        refine WP.s .n (O.mv rfl) ?_
        refine WP.s .n (O.ext rfl rfl) ?_
        refine WP.s .n (O.ext rfl rfl) ?_
        refine WP.s .n (O.asg rfl) ?_
        refine WP.s .n (O.asg rfl) ?_
        refine WP.nil ?_
        refine QE.next ?_
        refine CW.seq ?_
        have hm : nval (limbs (nval a)) % (limbs (nval b)).getD 0 0 < 4294967296 := Nat.lt_of_lt_of_le (Nat.mod_lt _ (by rw [one_limb (by omega)]; omega)) (Nat.le_of_lt hx0)
        refine CW.region ?_
        refine WP.s .n (O.mv rfl) ?_
        refine WP.s .n (O.mv rfl) ?_
        refine WP.s .n (O.bs Try.underlying29 el121_limb (evl.l rfl (u32_limb (x := (nval (limbs (nval a)) % ((limbs (nval b)).getD 0 0) : Nat)) (by omega)) evl.n) rfl (by decide)) ?_
        refine WP.s .n (O.fn fn197 (evs.c rfl evs.nil) (c_nat_trim [(nval (limbs (nval a)) % ((limbs (nval b)).getD 0 0) : Nat)])) ?_
        refine WP.s .n (O.asg rfl) ?_
        refine WP.s .n (O.asg rfl) ?_
        refine WP.s .n (O.asg rfl) ?_
        refine WP.nil ?_
        refine QE.next ?_
        refine CW.ret ?_
        refine QE.blkR ?_
        refine QE.thenR ?_
        refine ST.told 4 rfl (is_eq (y := (limbs (nval a / nval b))) (by rw [one_limb (by omega), nval_limbs])) ?_
        refine ST.told 5 rfl (is_eq (y := (if nval b = 0 then [] else limbs (nval a % nval b))) (by rw [if_neg hb0, one_limb (by omega), nval_limbs]; simp [nval])) ?_
        refine ST.told 6 rfl (is_eq (y := (if nval b = 0 then 11 else 0)) (by rw [if_neg hb0])) ?_
        exact QE.done (.inl rfl) rfl (ResOk.t rfl (ResOk.t rfl (ResOk.t rfl ResOk.nil))) (OImp.sub (List.nil_sublist _)) ⟨rfl, rfl⟩
      · refine CW.skip ?_
        refine QE.blkN ?_
        refine QE.next ?_
        refine CW.seq ?_
        have hx9 := getD_lt lB ((limbs (nval b)).length - 1)
        refine CW.region ?_
        refine WP.s .n (O.mv rfl) ?_
        refine WP.s .n (O.mv rfl) ?_
        refine WP.s .n (O.lenS rfl Try.underlying29) ?_
        refine WP.s .n (O.sub rfl rfl (c := (((limbs (nval b)).length : Int) - 1)) (w64 (by omega))) ?_
        refine WP.s .n (O.ix ((limbs (nval b)).length - 1) rfl rfl Try.underlying29 ty121 (by omega) (v := ((limbs (nval b)).getD ((limbs (nval b)).length - 1) 0)) (gd 0 (by first | omega | (simp; omega)))) ?_
        refine WP.s .n (OpOk.le (O.ldP rfl ty121) (limb_le _)) ?_
        refine WP.s .n (O.fn fn210 (evs.l rfl (u32_limb (x := ((limbs (nval b)).getD ((limbs (nval b)).length - 1) 0)) (by omega)) evs.nil) (c_bits_LeadingZeros32 ((limbs (nval b)).getD ((limbs (nval b)).length - 1) 0))) ?_
        refine WP.s .n (O.asg rfl) ?_
        refine WP.nil ?_
        refine QE.next ?_
        refine CW.seq ?_
        obtain ⟨s, hsv, hs, hvl⟩ := div_sh hb0
        refine ST.told 9 rfl (is_eq (y := (s : Int)) hsv) ?_
        have hV : nval b * 2 ^ s ≠ 0 := Nat.mul_ne_zero hb0 (Nat.ne_of_gt (Nat.two_pow_pos s))
        refine CW.region ?_
        refine WP.s .n (O.mv rfl) ?_
        refine WP.s .n (O.mv rfl) ?_
        refine WP.call (Li := []) (L := []) .n fn211 (evs.c rfl (evs.c rfl evs.nil)) (c_nat_shl (limbs (nval b)) s hs (by omega)) fun p_ Lo_ hp_ => ?_
        obtain ⟨v1, rfl, rfl, hx_t54⟩ := hp_
        refine WP.s .n (O.asg rfl) ?_
        refine WP.nil ?_
        refine QE.next ?_
        refine CW.seq ?_
        refine ST.obtold 0 rfl (OB.row_eq (ys := (limbs (nval b * 2 ^ s))) (by rw [nval_limbs])) ?_
        refine ST.freeze 0 rfl (.keep (i := 0) rfl (.keep (i := 1) rfl (.keep (i := 4) rfl (.keep (i := 5) rfl (.keep (i := 6) rfl (.keep (i := 9) rfl (.hit (i := 10) rfl (.keep (i := 14) rfl (.keep (i := 15) rfl (.keep (i := 16) rfl (.keep (i := 17) rfl (.keep (i := 18) rfl (.keep (i := 19) rfl (.keep (i := 20) rfl (.keep (i := 21) rfl (.keep (i := 22) rfl (.keep (i := 23) rfl (.keep (i := 24) rfl (.keep (i := 25) rfl (.keep (i := 26) rfl (.keep (i := 29) rfl (.keep (i := 30) rfl (.keep (i := 31) rfl (.keep (i := 32) rfl (.keep (i := 45) rfl (.keep (i := 46) rfl (.keep (i := 47) rfl (.keep (i := 48) rfl (.keep (i := 49) rfl (.keep (i := 50) rfl (.keep (i := 51) rfl (.keep (i := 52) rfl (.keep (i := 53) rfl (.hit (i := 54) rfl .nil)))))))))))))))))))))))))))))))))) ?_
        have hul0 : (limbs (nval a * 2 ^ s)).length ≤ (limbs (nval a)).length + 1 := limbs_len_lt (by rw [Nat.pow_succ]; exact Nat.mul_lt_mul_of_lt_of_le (lt_limbs _) (Nat.le_trans (pow32 hs).2.1 (by decide)) (by decide))
        have hul1 : (limbs (nval a)).length ≤ (limbs (nval a * 2 ^ s)).length := limbs_mono (Nat.le_mul_of_pos_right _ (Nat.two_pow_pos s))
        refine CW.region ?_
        refine WP.s .n (O.mv rfl) ?_
        refine WP.s .n (O.mv rfl) ?_
        refine WP.call (Li := []) (L := []) .n fn211 (evs.c rfl (evs.c rfl evs.nil)) (c_nat_shl (limbs (nval a)) s hs (by omega)) fun p_ Lo_ hp_ => ?_
        obtain ⟨v2, rfl, rfl, hx_t57⟩ := hp_
        refine WP.s .n (O.bs Try.underlying29 el121_limb (evl.l rfl (u32_limb (x := 0) (by omega)) (evl.l rfl (u32_limb (x := 0) (by omega)) evl.n)) rfl (by decide)) ?_
        refine ST.obtold 0 rfl (OB.row_eq (ys := (limbs (nval a * 2 ^ s))) (by rw [nval_limbs])) ?_
        refine WP.ap 0 .n rfl rfl rfl (VP.le_refl _) Try.underlying29 el121_limb (by simp; omega) fun v3 => ?_
        refine WP.s .n (O.mv rfl) ?_
        refine WP.s .n (O.lenS rfl Try.underlying29) ?_
        refine WP.s .n (O.add rfl rfl (c := (((limbs (nval a)).length : Int) + 1)) (w64 (by omega))) ?_
        refine WP.slR 0 ((limbs (nval a)).length + 1) .n rfl rfl rfl Try.underlying29 ty121 (by omega) (by first | omega | (simp; omega)) fun v4 => ?_
        refine WP.s .n (O.asg rfl) ?_
        refine WP.nil ?_
        refine QE.next ?_
        refine CW.seq ?_
        obtain ⟨us0, hus0⟩ : ∃ us0, us0 = (limbs (nval a * 2 ^ s) ++ [0, 0]).take ((limbs (nval a)).length + 1) := ⟨_, rfl⟩
        refine ST.obtold 0 rfl (OB.row_eq (ys := us0) (by rw [hus0])) ?_
        have hp1 := take_pad (L := limbs (nval a * 2 ^ s)) (k := (limbs (nval a)).length + 1) hul0 (by omega)
        rw [← hus0] at hp1
        have lus : Lims us0 := by rw [hus0]; exact Lims.take (fun x hx => (List.mem_append.1 hx).elim (limbs_lims _ x) (fun h => by simp at h; omega)) _
        refine CW.region ?_
        refine WP.s .n (O.mv rfl) ?_
        refine WP.s .n (O.lenS rfl Try.underlying29) ?_
        refine WP.s .n (O.mv rfl) ?_
        refine WP.s .n (O.lenS rfl Try.underlying29) ?_
        refine WP.s .n (O.sub rfl rfl (c := (((limbs (nval a)).length : Int) - ((limbs (nval b)).length : Int))) (w64 (by omega))) ?_
        refine WP.s .n (O.add rfl rfl (c := ((((limbs (nval a)).length : Int) - ((limbs (nval b)).length : Int)) + 1)) (w64 (by omega))) ?_
        refine WP.mk ((limbs (nval a)).length - (limbs (nval b)).length + 1) .n rfl rfl (by omega) (by first | omega | (simp; omega)) Try.underlying29 el121_limb z121_limb fun v5 => ?_
        refine WP.s .n (O.asg rfl) ?_
        refine WP.nil ?_
        refine QE.next ?_
        refine CW.seq ?_
        refine CW.seq ?_
        refine CW.region ?_
        refine WP.s .n (O.mv rfl) ?_
        refine WP.s .n (O.lenS rfl Try.underlying29) ?_
        refine WP.s .n (O.mv rfl) ?_
        refine WP.s .n (O.lenS rfl Try.underlying29) ?_
        refine WP.s .n (O.sub rfl rfl (c := (((limbs (nval a)).length : Int) - ((limbs (nval b)).length : Int))) (w64 (by omega))) ?_
        refine WP.s .n (O.asg rfl) ?_
        refine WP.nil ?_
        refine QE.next ?_
        refine CW.block ?_
        refine CW.loop5 (fun (us : List Nat) (qs : List Nat) (k : Nat) (vq : Value) (vu : Value) => DivR (nval a * 2 ^ s) (nval b * 2 ^ s) (limbs (nval a)).length (limbs (nval b)).length us qs k) (fun (us : List Nat) (qs : List Nat) (k : Nat) (vq : Value) (vu : Value) => [(0, kN.is (limbs (nval a))), (1, kN.is (limbs (nval b))), (9, (kInt .i64).is (s : Int)), (10, kN.is (limbs (nval b * 2 ^ s))), (11, VP.ex vu), (12, VP.ex vq), (13, (kInt .i64).is ((k : Int) - 1))]) (fun (us : List Nat) (qs : List Nat) (k : Nat) (vq : Value) (vu : Value) => [OB.row vq 121 kLimb qs, OB.row vu 121 kLimb us]) (fun (us : List Nat) (qs : List Nat) (k : Nat) (vq : Value) (vu : Value) => k) us0 (List.replicate ((limbs (nval a)).length - (limbs (nval b)).length + 1) 0) ((limbs (nval a)).length - (limbs (nval b)).length + 1) v5 v4 (divR_0 hb0 hab hp1.1 lus (by rw [hp1.2, nval_limbs])) (Imp.cons rfl (Imp.cons rfl (Imp.cons rfl (Imp.cons rfl (Imp.cons rfl (Imp.cons rfl (Imp.consLe rfl (is_eq (y := ((((limbs (nval a)).length - (limbs (nval b)).length + 1) : Nat) : Int) - 1) (by first | omega | rfl | simp)) Imp.nil))))))) (OImp.refl _) ?_
        intro us qs k vq vu hD
        have hul := hD.1
        have hql := hD.2.2.1
        have hk := hD.2.2.2.2.1
        refine CW.seq ?_
        refine CW.seq ?_
        refine CW.region ?_
        refine WP.s .n (O.mv rfl) ?_
        refine WP.s .n (O.ge rfl rfl) ?_
        refine WP.nil ?_
        refine QE.next ?_
        refine CW.condD rfl (fun h_t77 => ?_) (fun h_t77 => ?_)
        · refine CW.skip ?_
          refine QE.next ?_
          refine CW.seq ?_
          refine CW.block ?_
          refine CW.region ?_
          refine WP.s .n (O.mv rfl) ?_
          refine WP.s .n (O.mv rfl) ?_
          refine WP.s .n (O.mv rfl) ?_
          refine WP.s .n (O.mv rfl) ?_
          refine WP.s .n (O.mv rfl) ?_
          refine WP.s .n (O.mv rfl) ?_
          refine WP.s .n (O.lenS rfl Try.underlying29) ?_
          refine WP.s .n (O.add rfl rfl (c := (((k : Int) - 1) + ((limbs (nval b * 2 ^ s)).length : Int))) (w64 (by omega))) ?_
          refine WP.s .n (O.add rfl rfl (c := ((((k : Int) - 1) + ((limbs (nval b * 2 ^ s)).length : Int)) + 1)) (w64 (by omega))) ?_
          refine WP.s .n (O.slW (k - 1) (k - 1 + ((limbs (nval b * 2 ^ s)).length + 1)) rfl rfl rfl (mem_at 1 rfl) Try.underlying29 ty121 (by omega) (by omega) (by first | omega | (simp; omega)) (by first | omega | (simp; omega))) ?_
          refine WP.s .n (O.mv rfl) ?_
          refine ST.oimp (OImp.ix [1, 0] (by decide) rfl) ?_
          refine WP.call (Li := [OB.row vu 121 kLimb us]) (L := [OB.row vq 121 kLimb qs]) .n fn212 (evs.l rfl (win_le (by first | omega | simp [kLimb]) (by omega)) (evs.c rfl evs.nil)) (c_nat_digit vu us (limbs (nval b * 2 ^ s)) (k - 1) (by omega) (by omega) (limbs_top hV) (by rw [nval_limbs, hvl]; exact (divR_win (lb := (limbs (nval b)).length) hvl.symm (by omega) (by omega) hD).1)) fun p_ Lo_ hp_ => ?_
          obtain ⟨w, rfl, rfl, hw⟩ := hp_
          have hqd : nval ((us.drop (k - 1)).take ((limbs (nval b * 2 ^ s)).length + 1)) / nval (limbs (nval b * 2 ^ s)) < 4294967296 := by rw [nval_limbs, hvl]; exact divR_q (lb := (limbs (nval b)).length) hvl.symm (by omega) (by omega) hD
          refine WP.s .n (O.ixR (k := kLimb) (xs := qs) (n := (k : Int) - 1) (k - 1) rfl rfl (mem_at 1 rfl) Try.underlying29 ty121 (by omega) (by first | omega | (simp; omega))) ?_
          refine WP.t .n (O.stR 1 (k - 1) rfl rfl (Lens.id _) rfl (y0 := (qs.getD (k - 1) 0)) (gd 0 (by first | omega | (simp; omega))) ty121 rfl (u32_limb (x := (nval ((us.drop (k - 1)).take ((limbs (nval b * 2 ^ s)).length + 1)) / nval (limbs (nval b * 2 ^ s)) : Nat)) (by omega))) ?_
          refine WP.nil ?_
          refine QE.blkN ?_
          refine QE.next ?_
          refine CW.region ?_
          refine WP.s .n (O.mv rfl) ?_
          refine WP.s .n (O.sub rfl rfl (c := (((k : Int) - 1) - 1)) (w64 (by omega))) ?_
          refine WP.s .n (O.asg rfl) ?_
          refine WP.nil ?_
          refine ST.oimp (OImp.ix [1, 0] (by decide) rfl) ?_
          exact QE.round5 (us.take (k - 1) ++ w ++ us.drop (k - 1 + ((limbs (nval b * 2 ^ s)).length + 1))) (qs.set (k - 1) (nval ((us.drop (k - 1)).take ((limbs (nval b * 2 ^ s)).length + 1)) / nval (limbs (nval b * 2 ^ s)))) (k - 1) vq vu (by omega) (by rw [hvl] at hw ⊢; rw [nval_limbs] at hw ⊢; exact divR_s (lb := (limbs (nval b)).length) hvl.symm (by omega) (by omega) hD hw.1 hw.2.1 hw.2.2) (Imp.cons rfl (Imp.cons rfl (Imp.cons rfl (Imp.cons rfl (Imp.cons rfl (Imp.cons rfl (Imp.consLe rfl (is_eq (y := (((k - 1) : Nat) : Int) - 1) (by first | omega | rfl | simp)) Imp.nil))))))) (OImp.os (OS.keepLe (OB.row_eq (by first | omega | rfl | simp)) (OS.keepLe (OB.row_eq (by first | omega | rfl | simp)) OS.nil)))
        · refine CW.exit ?_
          refine QE.thenE ?_
          refine QE.thenE ?_
          refine QE.blkH ?_
          refine QE.next ?_
          refine CW.seq ?_
          refine CW.region ?_
          refine WP.s .n (O.mv rfl) ?_
          refine ST.freeze 0 rfl (.keep (i := 0) rfl (.keep (i := 1) rfl (.keep (i := 9) rfl (.keep (i := 10) rfl (.keep (i := 11) rfl (.hit (i := 12) rfl (.keep (i := 13) rfl (.keep (i := 76) rfl (.keep (i := 77) rfl (.hit (i := 93) rfl .nil)))))))))) ?_
          refine WP.s .n (O.fn fn197 (evs.c rfl evs.nil) (c_nat_trim qs)) ?_
          refine WP.s .n (O.mv rfl) ?_
          refine ST.freeze 0 rfl (.keep (i := 0) rfl (.keep (i := 1) rfl (.keep (i := 9) rfl (.keep (i := 10) rfl (.hit (i := 11) rfl (.keep (i := 12) rfl (.keep (i := 13) rfl (.keep (i := 76) rfl (.keep (i := 77) rfl (.keep (i := 93) rfl (.keep (i := 94) rfl (.hit (i := 95) rfl .nil)))))))))))) ?_
          refine WP.s .n (O.fn fn197 (evs.c rfl evs.nil) (c_nat_trim us)) ?_
          refine WP.s .n (O.mv rfl) ?_
          refine WP.s .n (O.fn fn213 (evs.c rfl (evs.c rfl evs.nil)) (c_nat_shr (limbs (nval us)) s hs)) ?_
          refine WP.s .n (O.asg rfl) ?_
          refine WP.s .n (O.asg rfl) ?_
          refine WP.s .n (O.asg rfl) ?_
          refine WP.nil ?_
          refine QE.next ?_
          refine CW.ret ?_
          have hend := divR_end (by omega) hD
          refine ST.told 4 rfl (is_eq (y := (limbs (nval a / nval b))) (by rw [hend.1])) ?_
          refine ST.told 5 rfl (is_eq (y := (if nval b = 0 then [] else limbs (nval a % nval b))) (by rw [if_neg hb0, nval_limbs, hend.2])) ?_
          refine ST.told 6 rfl (is_eq (y := (if nval b = 0 then 11 else 0)) (by rw [if_neg hb0])) ?_
          exact QE.done (.inl rfl) rfl (ResOk.t rfl (ResOk.t rfl (ResOk.t rfl ResOk.nil))) (OImp.sub (List.nil_sublist _)) ⟨rfl, rfl⟩

set_option maxRecDepth 20000 in
set_option maxHeartbeats 1000000 in
theorem c_nat_Gcd (a b : List Nat) (hA : a.length ≤ 549755813000) (hB : b.length ≤ 549755813000) : Fn Try.prog 168 [kN.is a, kN.is b] (kN.is (limbs (Nat.gcd (nval a) (nval b)))) := by
  refine Con.enter Try.func168 rfl rfl fun m w => ?_
  refine ST.fact (i := 0) rfl kN_lims fun la => ?_
  refine ST.fact (i := 1) rfl kN_lims fun lb => ?_
  have hla := limbs_len_le la
  have hlb := limbs_len_le lb
  refine CW.seq ?_
  refine CW.region ?_
  refine WP.s .n (O.asg rfl) ?_
  refine WP.nil ?_
  refine QE.next ?_
  refine CW.seq ?_
  refine CW.region ?_
  refine WP.s .n (O.mv rfl) ?_
  refine WP.s .n (O.fn fn208 (evs.c rfl evs.nil) (c_nat_Norm a)) ?_
  refine WP.s .n (O.mv rfl) ?_
  refine WP.s .n (O.fn fn208 (evs.c rfl evs.nil) (c_nat_Norm b)) ?_
  refine WP.s .n (O.asg rfl) ?_
  refine WP.s .n (O.asg rfl) ?_
  refine WP.nil ?_
  refine QE.next ?_
  refine CW.seq ?_
  refine CW.block ?_
  refine CW.loop2 (fun (x : Nat) (y : Nat) => Nat.gcd x y = Nat.gcd (nval a) (nval b) ∧ (limbs x).length ≤ 549755813000 ∧ (limbs y).length ≤ 549755813000) (fun (x : Nat) (y : Nat) => [(5, kN.is (limbs x)), (6, kN.is (limbs y))]) (fun (x : Nat) (y : Nat) => []) (fun (x : Nat) (y : Nat) => y) (nval a) (nval b) ⟨rfl, by omega, by omega⟩ (Imp.cons rfl (Imp.cons rfl Imp.nil)) (OImp.refl _) ?_
  intro x y ⟨hg, hx, hy⟩
  refine CW.seq ?_
  refine CW.seq ?_
  refine CW.region ?_
  refine WP.s .n (O.mv rfl) ?_
  refine WP.s .n (O.lenS rfl Try.underlying29) ?_
  refine WP.s .n (O.gt rfl rfl) ?_
  refine WP.nil ?_
  refine QE.next ?_
  refine CW.condD rfl (fun h_t16 => ?_) (fun h_t16 => ?_)
  · have hy0 : y ≠ 0 := fun h => by rw [h, limbs_zero] at h_t16; simp at h_t16
    refine CW.skip ?_
    refine QE.next ?_
    refine CW.block ?_
    refine CW.seq ?_
    refine CW.region ?_
    refine WP.s .n (O.mv rfl) ?_
    refine WP.s .n (O.mv rfl) ?_
    refine WP.s .n (O.fn fn169 (evs.c rfl (evs.c rfl evs.nil)) (c_nat_Div (limbs x) (limbs y) (by omega) (by omega))) ?_
    refine WP.s .n (O.mv rfl) ?_
    refine WP.s .n (O.ext rfl rfl) ?_
    refine WP.s .n (O.ext rfl rfl) ?_
    refine WP.s .n (O.ext rfl rfl) ?_
    refine WP.s .n (O.asg rfl) ?_
    refine WP.s .n (O.asg rfl) ?_
    refine WP.s .n (O.asg rfl) ?_
    refine WP.nil ?_
    refine QE.next ?_
    refine CW.region ?_
    refine WP.s .n (O.mv rfl) ?_
    refine WP.s .n (O.mv rfl) ?_
    refine WP.s .n (O.asg rfl) ?_
    refine WP.s .n (O.asg rfl) ?_
    refine WP.nil ?_
    refine QE.blkN ?_
    refine ST.told 6 rfl (is_eq (y := (limbs (x % y))) (by rw [nval_limbs, nval_limbs, if_neg hy0])) ?_
    exact QE.round2 y (x % y) (by exact Nat.mod_lt _ (Nat.pos_of_ne_zero hy0)) ⟨by rw [← hg, Nat.gcd_comm x y, Nat.gcd_rec y x, Nat.gcd_comm], hy, Nat.le_trans (limbs_mono (Nat.le_of_lt (Nat.mod_lt _ (Nat.pos_of_ne_zero hy0)))) hy⟩ (Imp.cons rfl (Imp.cons rfl Imp.nil)) (OImp.refl _)
  · refine CW.exit ?_
    refine QE.thenE ?_
    refine QE.thenE ?_
    refine QE.blkH ?_
    refine QE.next ?_
    refine CW.seq ?_
    refine CW.region ?_
    refine WP.s .n (O.mv rfl) ?_
    refine WP.s .n (O.asg rfl) ?_
    refine WP.nil ?_
    refine QE.next ?_
    refine CW.ret ?_
    have hy0 : y = 0 := limbs0 (by omega)
    refine ST.told 4 rfl (is_eq (y := (limbs (Nat.gcd (nval a) (nval b)))) (by rw [← hg, hy0, Nat.gcd_zero_right])) ?_
    exact QE.done (.inl rfl) rfl (ResOk.t rfl ResOk.nil) (OImp.sub (List.nil_sublist _)) ⟨rfl, rfl⟩

end Fw
