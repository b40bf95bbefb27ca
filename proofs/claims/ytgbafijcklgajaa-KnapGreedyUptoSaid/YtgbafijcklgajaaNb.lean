/- What the functions of layer 1 answer: trim, Norm, Cmp. -/
import Derived.Test.YtgbafijcklgajaaQNb
import Derived.Test.YtgbafijcklgajaaNa
set_option linter.unusedVariables false
set_option linter.unusedSimpArgs false
set_option exponentiation.threshold 70
namespace Fw
open Go Go.Proofs

set_option maxRecDepth 20000 in
set_option maxHeartbeats 1000000 in
theorem c_nat_trim (l : List Nat) : Fn Try.prog 197 [kN.is l] (kN.is (limbs (nval l))) := by
  refine Con.enter Try.func197 rfl rfl fun m w => ?_
  refine ST.fact (i := 0) rfl sl_len fun hB => ?_
  refine ST.fact (i := 0) rfl kN_lims fun hL => ?_
  refine CW.seq ?_
  refine CW.region ?_
  refine WP.s .n (O.asg rfl) ?_
  refine WP.nil ?_
  refine QE.next ?_
  refine CW.seq ?_
  refine CW.block ?_
  refine ST.told 0 rfl (is_eq (y := (l.take l.length)) (by rw [List.take_length])) ?_
  refine CW.loop (fun (i : Nat) => i ≤ l.length ∧ nval (l.take i) = nval l) (fun (i : Nat) => [(0, kN.is (l.take i))]) (fun (i : Nat) => []) (fun (i : Nat) => i) l.length ⟨Nat.le_refl _, by rw [List.take_length]⟩ (Imp.cons rfl Imp.nil) (OImp.refl _) ?_
  intro i ⟨hi, hr⟩
  have hlen : (l.take i).length = i := by simp; omega
  refine CW.seq ?_
  refine CW.seq ?_
  refine CW.region ?_
  refine WP.s .n (O.mv rfl) ?_
  refine WP.s .n (O.lenS rfl Try.underlying29) ?_
  refine WP.s .n (O.gt rfl rfl) ?_
  refine WP.s .n (O.mv rfl) ?_
  refine WP.splitD 6 rfl (fun h_t6 => ?_) (fun h_t6 => ?_)
  · have h_t6' : 0 < i := by omega
    refine WP.s (.g rfl rfl) (O.mv rfl) ?_
    refine WP.s (.g rfl rfl) (O.mv rfl) ?_
    refine WP.s (.g rfl rfl) (O.lenS rfl Try.underlying29) ?_
    refine WP.s (.g rfl rfl) (O.sub rfl rfl (c := (((l.take i).length : Int) - 1)) (w64 (by omega))) ?_
    refine WP.s (.g rfl rfl) (O.ix (i - 1) rfl rfl Try.underlying29 ty121 (by omega) (v := ((l.take i).getD (i - 1) 0)) (gd 0 (by omega))) ?_
    refine WP.s (.g rfl rfl) (OpOk.le (O.ldP rfl ty121) (limb_le _)) ?_
    refine WP.s (.g rfl rfl) (O.eq rfl rfl) ?_
    refine WP.s .n (O.pickT rfl rfl) ?_
    refine WP.nil ?_
    refine QE.next ?_
    refine CW.condD rfl (fun h_t14 => ?_) (fun h_t14 => ?_)
    · refine CW.skip ?_
      refine QE.next ?_
      refine CW.block ?_
      refine CW.region ?_
      refine WP.s .n (O.mv rfl) ?_
      refine WP.s .n (O.mv rfl) ?_
      refine WP.s .n (O.lenS rfl Try.underlying29) ?_
      refine WP.s .n (O.sub rfl rfl (c := (((l.take i).length : Int) - 1)) (w64 (by omega))) ?_
      refine WP.s .n (O.slH (i - 1) rfl rfl Try.underlying29 ty121 (by omega) (by omega)) ?_
      refine WP.s .n (O.asg rfl) ?_
      refine WP.nil ?_
      refine QE.blkN ?_
      refine ST.told 0 rfl (is_eq (y := (l.take (i - 1))) (take_take1 hi)) ?_
      exact QE.round (i - 1) (by omega) ⟨by omega, (trim_down hi h_t6' h_t14).trans hr⟩ (Imp.cons rfl Imp.nil) (OImp.refl _)
    · refine CW.exit ?_
      refine QE.thenE ?_
      refine QE.thenE ?_
      refine QE.blkH ?_
      refine QE.next ?_
      refine CW.seq ?_
      refine CW.region ?_
      refine WP.s .n (O.mv rfl) ?_
      refine WP.s .n (O.asg rfl) ?_
      refine WP.nil ?_
      refine QE.next ?_
      refine CW.ret ?_
      refine ST.told 2 rfl (is_eq (y := (limbs (nval l))) (trim_stop hL hi h_t6' h_t14 hr)) ?_
      exact QE.done (.inl rfl) rfl (ResOk.t rfl ResOk.nil) (OImp.sub (List.nil_sublist _)) ⟨rfl, rfl⟩
  · refine WP.k (b := false) rfl rfl ?_
    refine WP.k (b := false) rfl rfl ?_
    refine WP.k (b := false) rfl rfl ?_
    refine WP.k (b := false) rfl rfl ?_
    refine WP.k (b := false) rfl rfl ?_
    refine WP.k (b := false) rfl rfl ?_
    refine WP.k (b := false) rfl rfl ?_
    refine WP.s .n (O.pickF rfl rfl) ?_
    refine WP.nil ?_
    refine QE.next ?_
    refine CW.condF rfl ?_
    refine CW.exit ?_
    refine QE.thenE ?_
    refine QE.thenE ?_
    refine QE.blkH ?_
    refine QE.next ?_
    refine CW.seq ?_
    refine CW.region ?_
    refine WP.s .n (O.mv rfl) ?_
    refine WP.s .n (O.asg rfl) ?_
    refine WP.nil ?_
    refine QE.next ?_
    refine CW.ret ?_
    refine ST.told 2 rfl (is_eq (y := (limbs (nval l))) (trim_stop0 hr (by omega))) ?_
    exact QE.done (.inl rfl) rfl (ResOk.t rfl ResOk.nil) (OImp.sub (List.nil_sublist _)) ⟨rfl, rfl⟩

set_option maxRecDepth 20000 in
set_option maxHeartbeats 1000000 in
theorem c_nat_Norm (l : List Nat) : Fn Try.prog 208 [kN.is l] (kN.is (limbs (nval l))) := by
  refine Con.enter Try.func208 rfl rfl fun m w => ?_
  refine ST.fact (i := 0) rfl sl_len fun hB => ?_
  refine ST.fact (i := 0) rfl kN_lims fun hL => ?_
  refine CW.seq ?_
  refine CW.region ?_
  refine WP.s .n (O.asg rfl) ?_
  refine WP.nil ?_
  refine QE.next ?_
  refine CW.seq ?_
  refine CW.region ?_
  refine WP.s .n (O.mv rfl) ?_
  refine WP.s .n (O.fn fn197 (evs.c rfl evs.nil) (c_nat_trim l)) ?_
  refine ST.nilrow 121 kLimb ?_
  refine WP.ap 0 .n rfl rfl rfl (VP.le_refl _) Try.underlying29 el121_limb (by have := limbs_len_le hL; simp; omega) fun v1 => ?_
  refine WP.s .n (O.asg rfl) ?_
  refine WP.nil ?_
  refine QE.next ?_
  refine CW.ret ?_
  refine ST.freeze 0 rfl (.keep (i := 0) rfl (.hit (i := 2) rfl (.keep (i := 3) rfl (.keep (i := 4) rfl (.hit (i := 5) rfl .nil))))) ?_
  exact QE.done (.inl rfl) rfl (ResOk.t rfl ResOk.nil) (OImp.sub (List.nil_sublist _)) ⟨rfl, rfl⟩

set_option maxRecDepth 20000 in
set_option maxHeartbeats 1000000 in
theorem c_nat_Cmp (a b : List Nat) : Fn Try.prog 148 [kN.is a, kN.is b] ((kInt .i64).is (cmpI (nval a) (nval b))) := by
  refine Con.enter Try.func148 rfl rfl fun m w => ?_
  refine CW.seq ?_
  refine CW.region ?_
  refine WP.s .n (O.asg rfl) ?_
  refine WP.nil ?_
  refine QE.next ?_
  refine CW.seq ?_
  refine CW.region ?_
  refine WP.s .n (O.mv rfl) ?_
  refine WP.s .n (O.fn fn197 (evs.c rfl evs.nil) (c_nat_trim a)) ?_
  refine WP.s .n (O.mv rfl) ?_
  refine WP.s .n (O.fn fn197 (evs.c rfl evs.nil) (c_nat_trim b)) ?_
  refine WP.s .n (O.asg rfl) ?_
  refine WP.s .n (O.asg rfl) ?_
  refine WP.nil ?_
  refine QE.next ?_
  refine CW.seq ?_
  refine CW.seq ?_
  refine ST.fact (i := 0) rfl sl_len fun hA => ?_
  refine ST.fact (i := 1) rfl sl_len fun hB => ?_
  refine ST.fact (i := 0) rfl kN_lims fun lA => ?_
  refine ST.fact (i := 1) rfl kN_lims fun lB => ?_
  refine CW.region ?_
  refine WP.s .n (O.mv rfl) ?_
  refine WP.s .n (O.lenS rfl Try.underlying29) ?_
  refine WP.s .n (O.mv rfl) ?_
  refine WP.s .n (O.lenS rfl Try.underlying29) ?_
  refine WP.s .n (O.ne rfl rfl) ?_
  refine WP.nil ?_
  refine QE.next ?_
  refine CW.condD rfl (fun h_t14 => ?_) (fun h_t14 => ?_)
  · refine CW.seq ?_
    refine CW.seq ?_
    refine CW.region ?_
    refine WP.s .n (O.mv rfl) ?_
    refine WP.s .n (O.lenS rfl Try.underlying29) ?_
    refine WP.s .n (O.mv rfl) ?_
    refine WP.s .n (O.lenS rfl Try.underlying29) ?_
    refine WP.s .n (O.lt rfl rfl) ?_
    refine WP.nil ?_
    refine QE.next ?_
    refine CW.condD rfl (fun h_t19 => ?_) (fun h_t19 => ?_)
    · refine CW.seq ?_
      refine CW.region ?_
      refine WP.s .n (O.asg rfl) ?_
      refine WP.nil ?_
      refine QE.next ?_
      refine CW.ret ?_
      refine QE.thenR ?_
      refine QE.thenR ?_
      refine ST.told 4 rfl (is_eq (y := (cmpI (nval a) (nval b))) (cmp_len_lt (by omega))) ?_
      exact QE.done (.inl rfl) rfl (ResOk.t rfl ResOk.nil) (OImp.sub (List.nil_sublist _)) ⟨rfl, rfl⟩
    · refine CW.skip ?_
      refine QE.next ?_
      refine CW.seq ?_
      refine CW.region ?_
      refine WP.s .n (O.asg rfl) ?_
      refine WP.nil ?_
      refine QE.next ?_
      refine CW.ret ?_
      refine QE.thenR ?_
      refine ST.told 4 rfl (is_eq (y := (cmpI (nval a) (nval b))) (cmp_len_gt (by omega))) ?_
      exact QE.done (.inl rfl) rfl (ResOk.t rfl ResOk.nil) (OImp.sub (List.nil_sublist _)) ⟨rfl, rfl⟩
  · refine CW.skip ?_
    refine QE.next ?_
    refine CW.seq ?_
    refine CW.seq ?_
    refine CW.region ?_
    refine WP.s .n (O.mv rfl) ?_
    refine WP.s .n (O.lenS rfl Try.underlying29) ?_
    refine WP.s .n (O.sub rfl rfl (c := (((limbs (nval a)).length : Int) - 1)) (w64 (by omega))) ?_
    refine WP.s .n (O.asg rfl) ?_
    refine WP.nil ?_
    refine QE.next ?_
    refine CW.block ?_
    refine CW.loop (fun (i : Nat) => i ≤ (limbs (nval a)).length ∧ (limbs (nval a)).drop i = (limbs (nval b)).drop i) (fun (i : Nat) => [(0, kN.is (limbs (nval a))), (1, kN.is (limbs (nval b))), (5, (kInt .i64).is ((i : Int) - 1))]) (fun (i : Nat) => []) (fun (i : Nat) => i) ((limbs (nval a)).length) ⟨Nat.le_refl _, cmp_drop (by omega)⟩ (Imp.cons rfl (Imp.cons rfl (Imp.consLe rfl (is_eq (y := ((((limbs (nval a)).length) : Nat) : Int) - 1) (by omega)) Imp.nil))) (OImp.refl _) ?_
    intro i ⟨hi, hd⟩
    refine CW.seq ?_
    refine CW.seq ?_
    refine CW.region ?_
    refine WP.s .n (O.mv rfl) ?_
    refine WP.s .n (O.ge rfl rfl) ?_
    refine WP.nil ?_
    refine QE.next ?_
    refine CW.condD rfl (fun h_t24 => ?_) (fun h_t24 => ?_)
    · refine CW.skip ?_
      refine QE.next ?_
      refine CW.seq ?_
      refine CW.block ?_
      refine CW.seq ?_
      refine CW.draw (Γ := [.fr (kN.is (limbs (nval a))), .fr ((kInt .i64).is ((i : Int) - 1)), .fr (VP.pim kLimb ((limbs (nval a)).getD (i - 1) 0)), .fr ((kInt .u32).is (((limbs (nval a)).getD (i - 1) 0) : Int)), .fr (kN.is (limbs (nval b))), .fr ((kInt .i64).is ((i : Int) - 1)), .fr (VP.pim kLimb ((limbs (nval b)).getD (i - 1) 0)), .fr ((kInt .u32).is (((limbs (nval b)).getD (i - 1) 0) : Int)), .fr (kBool.is (decide ((((limbs (nval a)).getD (i - 1) 0) : Int) ≠ (((limbs (nval b)).getD (i - 1) 0) : Int))))]) (lates := [false, false, false, false, false, false, false, false, false]) (by kernel_rfl) (Chk.of rfl (by kernel_rfl) rfl) (fun _ _ _ _ _ h => h) (fun q_ x_ h_ => ?_) (fun σ => ?_)
      · match q_, h_ with
        | 0, h_ => cases h_; exact Ob.f rfl .n fun N => (O.mv rfl)
        | 1, h_ => cases h_; exact Ob.f rfl .n fun N => (O.mv rfl)
        | 2, h_ => cases h_; exact Ob.f rfl .n fun N => (O.ix (i - 1) rfl rfl Try.underlying29 ty121 (by omega) (v := ((limbs (nval a)).getD (i - 1) 0)) (gd 0 (by omega)))
        | 3, h_ => cases h_; exact Ob.f rfl .n fun N => (OpOk.le (O.ldP rfl ty121) (limb_le _))
        | 4, h_ => cases h_; exact Ob.f rfl .n fun N => (O.mv rfl)
        | 5, h_ => cases h_; exact Ob.f rfl .n fun N => (O.mv rfl)
        | 6, h_ => cases h_; exact Ob.f rfl .n fun N => (O.ix (i - 1) rfl rfl Try.underlying29 ty121 (by omega) (v := ((limbs (nval b)).getD (i - 1) 0)) (gd 0 (by omega)))
        | 7, h_ => cases h_; exact Ob.f rfl .n fun N => (OpOk.le (O.ldP rfl ty121) (limb_le _))
        | 8, h_ => cases h_; exact Ob.f rfl .n fun N => (O.ne rfl rfl)
        | n_ + 9, h_ => simp at h_
      refine WP.nil ?_
      refine QE.next ?_
      refine CW.condD rfl (fun h_t35 => ?_) (fun h_t35 => ?_)
      · refine CW.seq ?_
        refine CW.seq ?_
        refine CW.draw (Γ := [.fr (kN.is (limbs (nval a))), .fr ((kInt .i64).is ((i : Int) - 1)), .fr (VP.pim kLimb ((limbs (nval a)).getD (i - 1) 0)), .fr ((kInt .u32).is (((limbs (nval a)).getD (i - 1) 0) : Int)), .fr (kN.is (limbs (nval b))), .fr ((kInt .i64).is ((i : Int) - 1)), .fr (VP.pim kLimb ((limbs (nval b)).getD (i - 1) 0)), .fr ((kInt .u32).is (((limbs (nval b)).getD (i - 1) 0) : Int)), .fr (kBool.is (decide ((((limbs (nval a)).getD (i - 1) 0) : Int) < (((limbs (nval b)).getD (i - 1) 0) : Int))))]) (lates := [false, false, false, false, false, false, false, false, false]) (by kernel_rfl) (Chk.of rfl (by kernel_rfl) rfl) (fun _ _ _ _ _ h => h) (fun q_ x_ h_ => ?_) (fun σ => ?_)
        · match q_, h_ with
          | 0, h_ => cases h_; exact Ob.f rfl .n fun N => (O.mv rfl)
          | 1, h_ => cases h_; exact Ob.f rfl .n fun N => (O.mv rfl)
          | 2, h_ => cases h_; exact Ob.f rfl .n fun N => (O.ix (i - 1) rfl rfl Try.underlying29 ty121 (by omega) (v := ((limbs (nval a)).getD (i - 1) 0)) (gd 0 (by omega)))
          | 3, h_ => cases h_; exact Ob.f rfl .n fun N => (OpOk.le (O.ldP rfl ty121) (limb_le _))
          | 4, h_ => cases h_; exact Ob.f rfl .n fun N => (O.mv rfl)
          | 5, h_ => cases h_; exact Ob.f rfl .n fun N => (O.mv rfl)
          | 6, h_ => cases h_; exact Ob.f rfl .n fun N => (O.ix (i - 1) rfl rfl Try.underlying29 ty121 (by omega) (v := ((limbs (nval b)).getD (i - 1) 0)) (gd 0 (by omega)))
          | 7, h_ => cases h_; exact Ob.f rfl .n fun N => (OpOk.le (O.ldP rfl ty121) (limb_le _))
          | 8, h_ => cases h_; exact Ob.f rfl .n fun N => (O.lt rfl rfl)
          | n_ + 9, h_ => simp at h_
        refine WP.nil ?_
        refine QE.next ?_
        refine CW.condD rfl (fun h_t44 => ?_) (fun h_t44 => ?_)
        · refine CW.seq ?_
          refine CW.region ?_
          refine WP.s .n (O.asg rfl) ?_
          refine WP.nil ?_
          refine QE.next ?_
          refine CW.ret ?_
          refine QE.thenR ?_
          refine QE.blkR ?_
          refine QE.thenR ?_
          refine QE.thenR ?_
          refine QE.blkR ?_
          refine QE.thenR ?_
          refine ST.told 4 rfl (is_eq (y := (cmpI (nval a) (nval b))) (cmp_at_lt (by omega) (by omega) hd (by omega))) ?_
          exact QE.done (.inl rfl) rfl (ResOk.t rfl ResOk.nil) (OImp.sub (List.nil_sublist _)) ⟨rfl, rfl⟩
        · refine CW.skip ?_
          refine QE.next ?_
          refine CW.seq ?_
          refine CW.region ?_
          refine WP.s .n (O.asg rfl) ?_
          refine WP.nil ?_
          refine QE.next ?_
          refine CW.ret ?_
          refine QE.blkR ?_
          refine QE.thenR ?_
          refine QE.thenR ?_
          refine QE.blkR ?_
          refine QE.thenR ?_
          refine ST.told 4 rfl (is_eq (y := (cmpI (nval a) (nval b))) (cmp_at_gt (by omega) (by omega) hd (by omega) (by omega))) ?_
          exact QE.done (.inl rfl) rfl (ResOk.t rfl ResOk.nil) (OImp.sub (List.nil_sublist _)) ⟨rfl, rfl⟩
      · refine CW.skip ?_
        refine QE.blkN ?_
        refine QE.next ?_
        refine CW.region ?_
        refine WP.s .n (O.mv rfl) ?_
        refine WP.s .n (O.sub rfl rfl (c := (((i : Int) - 1) - 1)) (w64 (by omega))) ?_
        refine WP.s .n (O.asg rfl) ?_
        refine WP.nil ?_
        exact QE.round (i - 1) (by omega) ⟨by omega, cmp_down (by omega) hi (by omega) hd (by omega)⟩ (Imp.cons rfl (Imp.cons rfl (Imp.consLe rfl (is_eq (y := (((i - 1) : Nat) : Int) - 1) (by omega)) Imp.nil))) (OImp.refl _)
    · refine CW.exit ?_
      refine QE.thenE ?_
      refine QE.thenE ?_
      refine QE.blkH ?_
      refine QE.next ?_
      refine CW.seq ?_
      refine CW.region ?_
      refine WP.s .n (O.asg rfl) ?_
      refine WP.nil ?_
      refine QE.next ?_
      refine CW.ret ?_
      refine ST.told 4 rfl (is_eq (y := (cmpI (nval a) (nval b))) (cmp_at_eq (i := i) (by omega) hd)) ?_
      exact QE.done (.inl rfl) rfl (ResOk.t rfl ResOk.nil) (OImp.sub (List.nil_sublist _)) ⟨rfl, rfl⟩

set_option maxRecDepth 20000 in
set_option maxHeartbeats 1000000 in
theorem c_bits_Len32 (n : Nat) : Fn Try.prog 202 [kLimb.is n] ((kInt .i64).is (bitlen n : Int)) := by
  refine Con.enter Try.func202 rfl rfl fun m w => ?_
  refine ST.fact (i := 0) rfl limb_lt fun hn => ?_
  refine ST.told (q := (kInt .u32).is (n : Int)) 0 rfl (limb_le _) ?_
  refine CW.seq ?_
  refine CW.region ?_
  refine WP.s .n (O.asg rfl) ?_
  refine WP.nil ?_
  refine QE.next ?_
  refine CW.seq ?_
  refine CW.seq ?_
  refine CW.region ?_
  refine WP.s .n (O.mv rfl) ?_
  refine WP.s .n (O.ge rfl rfl) ?_
  refine WP.nil ?_
  refine QE.next ?_
  refine CW.condD rfl (fun h_t4 => ?_) (fun h_t4 => ?_)
  · refine CW.seq ?_
    refine CW.region ?_
    refine WP.s .n (O.mv rfl) ?_
    refine WP.s .n (O.shr rfl rfl (by omega) (c := ((n / 2 ^ 16 : Nat) : Int)) (shrN 16 rfl rfl (by decide))) ?_
    refine WP.s .n (O.asg rfl) ?_
    refine WP.nil ?_
    refine QE.next ?_
    refine CW.region ?_
    refine WP.s .n (O.asg rfl) ?_
    refine WP.nil ?_
    refine QE.next ?_
    refine CW.seq ?_
    refine CW.seq ?_
    refine CW.region ?_
    refine WP.s .n (O.mv rfl) ?_
    refine WP.s .n (O.ge rfl rfl) ?_
    refine WP.nil ?_
    refine QE.next ?_
    refine CW.condD rfl (fun h_t8 => ?_) (fun h_t8 => ?_)
    · refine CW.seq ?_
      refine CW.region ?_
      refine WP.s .n (O.mv rfl) ?_
      refine WP.s .n (O.shr rfl rfl (by omega) (c := ((n / 2 ^ 16 / 2 ^ 8 : Nat) : Int)) (shrN 8 rfl rfl (by decide))) ?_
      refine WP.s .n (O.asg rfl) ?_
      refine WP.nil ?_
      refine QE.next ?_
      refine CW.region ?_
      refine WP.s .n (O.mv rfl) ?_
      refine WP.s .n (O.add rfl rfl (c := (16 + 8)) (w64 (by omega))) ?_
      refine WP.s .n (O.asg rfl) ?_
      refine WP.nil ?_
      refine QE.next ?_
      refine CW.seq ?_
      have e16 := @bitlen_shift n 16
      have e8 := @bitlen_shift n 8
      have e24 := @bitlen_shift (n / 2 ^ 16) 8
      have l0 := @bitlen_le n 8
      have l1 := @bitlen_le (n / 2 ^ 16) 8
      have l2 := @bitlen_le (n / 2 ^ 8) 8
      have l3 := @bitlen_le (n / 2 ^ 16 / 2 ^ 8) 8
      refine CW.region ?_
      refine WP.s .n (O.mv rfl) ?_
      refine WP.s .n (O.mv rfl) ?_
      refine WP.s .n (O.cvt rfl Try.underlying121 Try.underlying5 (c := ((n / 2 ^ 16 / 2 ^ 8 : Nat) : Int)) (wr8 (by omega))) ?_
      refine WP.s .n (O.ixS (N := 256) bitlen (n / 2 ^ 16 / 2 ^ 8 : Nat) rfl Try.underlying9 rfl len8 (by omega)) ?_
      refine WP.s .n (O.cvt rfl Try.underlying5 Try.underlying3 (c := (bitlen (n / 2 ^ 16 / 2 ^ 8 : Nat) : Int)) (w64 (by omega))) ?_
      refine WP.s .n (O.add rfl rfl (c := ((16 + 8) + (bitlen (n / 2 ^ 16 / 2 ^ 8 : Nat) : Int))) (w64 (by omega))) ?_
      refine WP.s .n (O.asg rfl) ?_
      refine WP.nil ?_
      refine QE.next ?_
      refine CW.ret ?_
      exact QE.done (.inl rfl) rfl (ResOk.tl rfl (is_eq (y := (bitlen n : Int)) (by omega)) ResOk.nil) (OImp.sub (List.nil_sublist _)) ⟨rfl, rfl⟩
    · refine CW.skip ?_
      refine QE.next ?_
      refine CW.seq ?_
      have e16 := @bitlen_shift n 16
      have e8 := @bitlen_shift n 8
      have e24 := @bitlen_shift (n / 2 ^ 16) 8
      have l0 := @bitlen_le n 8
      have l1 := @bitlen_le (n / 2 ^ 16) 8
      have l2 := @bitlen_le (n / 2 ^ 8) 8
      have l3 := @bitlen_le (n / 2 ^ 16 / 2 ^ 8) 8
      refine CW.region ?_
      refine WP.s .n (O.mv rfl) ?_
      refine WP.s .n (O.mv rfl) ?_
      refine WP.s .n (O.cvt rfl Try.underlying121 Try.underlying5 (c := ((n / 2 ^ 16 : Nat) : Int)) (wr8 (by omega))) ?_
      refine WP.s .n (O.ixS (N := 256) bitlen (n / 2 ^ 16 : Nat) rfl Try.underlying9 rfl len8 (by omega)) ?_
      refine WP.s .n (O.cvt rfl Try.underlying5 Try.underlying3 (c := (bitlen (n / 2 ^ 16 : Nat) : Int)) (w64 (by omega))) ?_
      refine WP.s .n (O.add rfl rfl (c := (16 + (bitlen (n / 2 ^ 16 : Nat) : Int))) (w64 (by omega))) ?_
      refine WP.s .n (O.asg rfl) ?_
      refine WP.nil ?_
      refine QE.next ?_
      refine CW.ret ?_
      exact QE.done (.inl rfl) rfl (ResOk.tl rfl (is_eq (y := (bitlen n : Int)) (by omega)) ResOk.nil) (OImp.sub (List.nil_sublist _)) ⟨rfl, rfl⟩
  · refine CW.skip ?_
    refine QE.next ?_
    refine CW.seq ?_
    refine CW.seq ?_
    refine CW.region ?_
    refine WP.s .n (O.mv rfl) ?_
    refine WP.s .n (O.ge rfl rfl) ?_
    refine WP.nil ?_
    refine QE.next ?_
    refine CW.condD rfl (fun h_t8 => ?_) (fun h_t8 => ?_)
    · refine CW.seq ?_
      refine CW.region ?_
      refine WP.s .n (O.mv rfl) ?_
      refine WP.s .n (O.shr rfl rfl (by omega) (c := ((n / 2 ^ 8 : Nat) : Int)) (shrN 8 rfl rfl (by decide))) ?_
      refine WP.s .n (O.asg rfl) ?_
      refine WP.nil ?_
      refine QE.next ?_
      refine CW.region ?_
      refine WP.s .n (O.mv rfl) ?_
      refine WP.s .n (O.add rfl rfl (c := (0 + 8)) (w64 (by omega))) ?_
      refine WP.s .n (O.asg rfl) ?_
      refine WP.nil ?_
      refine QE.next ?_
      refine CW.seq ?_
      have e16 := @bitlen_shift n 16
      have e8 := @bitlen_shift n 8
      have e24 := @bitlen_shift (n / 2 ^ 16) 8
      have l0 := @bitlen_le n 8
      have l1 := @bitlen_le (n / 2 ^ 16) 8
      have l2 := @bitlen_le (n / 2 ^ 8) 8
      have l3 := @bitlen_le (n / 2 ^ 16 / 2 ^ 8) 8
      refine CW.region ?_
      refine WP.s .n (O.mv rfl) ?_
      refine WP.s .n (O.mv rfl) ?_
      refine WP.s .n (O.cvt rfl Try.underlying121 Try.underlying5 (c := ((n / 2 ^ 8 : Nat) : Int)) (wr8 (by omega))) ?_
      refine WP.s .n (O.ixS (N := 256) bitlen (n / 2 ^ 8 : Nat) rfl Try.underlying9 rfl len8 (by omega)) ?_
      refine WP.s .n (O.cvt rfl Try.underlying5 Try.underlying3 (c := (bitlen (n / 2 ^ 8 : Nat) : Int)) (w64 (by omega))) ?_
      refine WP.s .n (O.add rfl rfl (c := ((0 + 8) + (bitlen (n / 2 ^ 8 : Nat) : Int))) (w64 (by omega))) ?_
      refine WP.s .n (O.asg rfl) ?_
      refine WP.nil ?_
      refine QE.next ?_
      refine CW.ret ?_
      exact QE.done (.inl rfl) rfl (ResOk.tl rfl (is_eq (y := (bitlen n : Int)) (by omega)) ResOk.nil) (OImp.sub (List.nil_sublist _)) ⟨rfl, rfl⟩
    · refine CW.skip ?_
      refine QE.next ?_
      refine CW.seq ?_
      have e16 := @bitlen_shift n 16
      have e8 := @bitlen_shift n 8
      have e24 := @bitlen_shift (n / 2 ^ 16) 8
      have l0 := @bitlen_le n 8
      have l1 := @bitlen_le (n / 2 ^ 16) 8
      have l2 := @bitlen_le (n / 2 ^ 8) 8
      have l3 := @bitlen_le (n / 2 ^ 16 / 2 ^ 8) 8
      refine CW.region ?_
      refine WP.s .n (O.mv rfl) ?_
      refine WP.s .n (O.mv rfl) ?_
      refine WP.s .n (O.cvt rfl Try.underlying121 Try.underlying5 (c := (n : Int)) (wr8 (by omega))) ?_
      refine WP.s .n (O.ixS (N := 256) bitlen n rfl Try.underlying9 rfl len8 (by omega)) ?_
      refine WP.s .n (O.cvt rfl Try.underlying5 Try.underlying3 (c := (bitlen n : Int)) (w64 (by omega))) ?_
      refine WP.s .n (O.add rfl rfl (c := (0 + (bitlen n : Int))) (w64 (by omega))) ?_
      refine WP.s .n (O.asg rfl) ?_
      refine WP.nil ?_
      refine QE.next ?_
      refine CW.ret ?_
      exact QE.done (.inl rfl) rfl (ResOk.tl rfl (is_eq (y := (bitlen n : Int)) (by omega)) ResOk.nil) (OImp.sub (List.nil_sublist _)) ⟨rfl, rfl⟩

set_option maxRecDepth 20000 in
set_option maxHeartbeats 1000000 in
theorem c_bits_LeadingZeros32 (n : Nat) : Fn Try.prog 210 [kLimb.is n] ((kInt .i64).is (32 - (bitlen n : Int))) := by
  refine Con.enter Try.func210 rfl rfl fun m w => ?_
  refine ST.fact (i := 0) rfl limb_lt fun hn => ?_
  have hb := @bitlen_le n 32 hn
  refine CW.seq ?_
  refine CW.region ?_
  refine WP.s .n (O.asg rfl) ?_
  refine WP.nil ?_
  refine QE.next ?_
  refine CW.seq ?_
  refine CW.region ?_
  refine WP.s .n (O.mv rfl) ?_
  refine WP.s .n (O.fn fn202 (evs.c rfl evs.nil) (c_bits_Len32 n)) ?_
  refine WP.s .n (O.sub rfl rfl (c := (32 - (bitlen n : Int))) (w64 (by omega))) ?_
  refine WP.s .n (O.asg rfl) ?_
  refine WP.nil ?_
  refine QE.next ?_
  refine CW.ret ?_
  exact QE.done (.inl rfl) rfl (ResOk.t rfl ResOk.nil) (OImp.sub (List.nil_sublist _)) ⟨rfl, rfl⟩

set_option maxRecDepth 20000 in
set_option maxHeartbeats 1000000 in
theorem c_nat_Bits (l : List Nat) : Fn Try.prog 156 [kN.is l] ((kInt .i64).is (bitlen (nval l) : Int)) := by
  refine Con.enter Try.func156 rfl rfl fun m w => ?_
  refine CW.seq ?_
  refine CW.region ?_
  refine WP.s .n (O.asg rfl) ?_
  refine WP.nil ?_
  refine QE.next ?_
  refine CW.seq ?_
  refine CW.region ?_
  refine WP.s .n (O.mv rfl) ?_
  refine WP.s .n (O.fn fn197 (evs.c rfl evs.nil) (c_nat_trim l)) ?_
  refine WP.s .n (O.asg rfl) ?_
  refine WP.nil ?_
  refine QE.next ?_
  refine CW.seq ?_
  refine CW.seq ?_
  refine ST.fact (i := 0) rfl sl_len fun hB => ?_
  refine ST.fact (i := 0) rfl kN_lims fun hL => ?_
  refine CW.region ?_
  refine WP.s .n (O.mv rfl) ?_
  refine WP.s .n (O.lenS rfl Try.underlying29) ?_
  refine WP.s .n (O.eq rfl rfl) ?_
  refine WP.nil ?_
  refine QE.next ?_
  refine CW.condD rfl (fun h_t7 => ?_) (fun h_t7 => ?_)
  · refine CW.seq ?_
    refine CW.region ?_
    refine WP.s .n (O.asg rfl) ?_
    refine WP.nil ?_
    refine QE.next ?_
    refine CW.ret ?_
    refine QE.thenR ?_
    refine ST.told 2 rfl (is_eq (y := (bitlen (nval l) : Int)) (by rw [bitlen0 (by omega)]; rfl)) ?_
    exact QE.done (.inl rfl) rfl (ResOk.t rfl ResOk.nil) (OImp.sub (List.nil_sublist _)) ⟨rfl, rfl⟩
  · refine CW.skip ?_
    refine QE.next ?_
    refine CW.seq ?_
    have hx := getD_lt hL ((limbs (nval l)).length - 1)
    have hb := @bitlen_le ((limbs (nval l)).getD ((limbs (nval l)).length - 1) 0) 32 hx
    have hbits := @bits_limbs (nval l) (by intro h; rw [h, limbs_zero] at h_t7; simp at h_t7)
    refine CW.region ?_
    refine WP.s .n (O.mv rfl) ?_
    refine WP.s .n (O.lenS rfl Try.underlying29) ?_
    refine WP.s .n (O.sub rfl rfl (c := (((limbs (nval l)).length : Int) - 1)) (w64 (by omega))) ?_
    refine WP.s .n (O.mul rfl rfl (c := (32 * (((limbs (nval l)).length : Int) - 1))) (w64 (by omega))) ?_
    refine WP.s .n (O.mv rfl) ?_
    refine WP.s .n (O.mv rfl) ?_
    refine WP.s .n (O.lenS rfl Try.underlying29) ?_
    refine WP.s .n (O.sub rfl rfl (c := (((limbs (nval l)).length : Int) - 1)) (w64 (by omega))) ?_
    refine WP.s .n (O.ix ((limbs (nval l)).length - 1) rfl rfl Try.underlying29 ty121 (by omega) (v := ((limbs (nval l)).getD ((limbs (nval l)).length - 1) 0)) (gd 0 (by omega))) ?_
    refine WP.s .n (OpOk.le (O.ldP rfl ty121) (limb_le _)) ?_
    refine WP.s .n (O.fn fn202 (evs.l rfl (u32_limb (x := ((limbs (nval l)).getD ((limbs (nval l)).length - 1) 0)) (by omega)) evs.nil) (c_bits_Len32 ((limbs (nval l)).getD ((limbs (nval l)).length - 1) 0))) ?_
    refine WP.s .n (O.add rfl rfl (c := ((32 * (((limbs (nval l)).length : Int) - 1)) + (bitlen ((limbs (nval l)).getD ((limbs (nval l)).length - 1) 0) : Int))) (w64 (by omega))) ?_
    refine WP.s .n (O.asg rfl) ?_
    refine WP.nil ?_
    refine QE.next ?_
    refine CW.ret ?_
    exact QE.done (.inl rfl) rfl (ResOk.tl rfl (is_eq (y := (bitlen (nval l) : Int)) (by omega)) ResOk.nil) (OImp.sub (List.nil_sublist _)) ⟨rfl, rfl⟩

set_option maxRecDepth 20000 in
set_option maxHeartbeats 1000000 in
theorem c_nat_Add (a b : List Nat) (hA : a.length < 1099511627776) (hB : b.length < 1099511627776) : Fn Try.prog 150 [kN.is a, kN.is b] (kN.is (limbs (nval a + nval b))) := by
  refine Con.enter Try.func150 rfl rfl fun m w => ?_
  refine ST.fact (i := 0) rfl kN_lims fun lA => ?_
  refine ST.fact (i := 1) rfl kN_lims fun lB => ?_
  refine CW.seq ?_
  refine CW.region ?_
  refine WP.s .n (O.asg rfl) ?_
  refine WP.nil ?_
  refine QE.next ?_
  refine CW.cut2 (fun (x : List Nat) (y : List Nat) => y.length ≤ x.length ∧ x.length < 1099511627776 ∧ Lims x ∧ Lims y ∧ nval x + nval y = nval a + nval b) (fun (x : List Nat) (y : List Nat) => [(0, kN.is x), (1, kN.is y)]) (fun (x : List Nat) (y : List Nat) => []) ?_ ?_
  · refine CW.seq ?_
    refine CW.region ?_
    refine WP.s .n (O.mv rfl) ?_
    refine WP.s .n (O.lenS rfl Try.underlying29) ?_
    refine WP.s .n (O.mv rfl) ?_
    refine WP.s .n (O.lenS rfl Try.underlying29) ?_
    refine WP.s .n (O.lt rfl rfl) ?_
    refine WP.nil ?_
    refine QE.next ?_
    refine CW.condD rfl (fun h_t12 => ?_) (fun h_t12 => ?_)
    · refine CW.region ?_
      refine WP.s .n (O.mv rfl) ?_
      refine WP.s .n (O.mv rfl) ?_
      refine WP.s .n (O.asg rfl) ?_
      refine WP.s .n (O.asg rfl) ?_
      refine WP.nil ?_
      exact QE.mid2 b a ⟨by omega, hB, lB, lA, Nat.add_comm _ _⟩ (Imp.cons rfl (Imp.cons rfl Imp.nil)) (OImp.refl _)
    · refine CW.skip ?_
      exact QE.mid2 a b ⟨by omega, hA, lA, lB, rfl⟩ (Imp.cons rfl (Imp.cons rfl Imp.nil)) (OImp.refl _)
  intro x y ⟨hlen, hlt, l1, l2, hsum⟩
  refine CW.seq ?_
  refine CW.region ?_
  refine WP.s .n (O.mv rfl) ?_
  refine WP.s .n (O.lenS rfl Try.underlying29) ?_
  refine WP.s .n (O.add rfl rfl (c := ((x.length : Int) + 1)) (w64 (by omega))) ?_
  refine WP.mk ((((x.length : Int) + 1)).toNat) .n rfl rfl (by omega) (by omega) Try.underlying29 el121_limb z121_limb fun v1 => ?_
  refine WP.s .n (O.asg rfl) ?_
  refine WP.nil ?_
  refine QE.next ?_
  refine CW.seq ?_
  refine CW.region ?_
  refine WP.s .n (O.asg rfl) ?_
  refine WP.nil ?_
  refine QE.next ?_
  refine CW.seq ?_
  refine CW.seq ?_
  refine CW.region ?_
  refine WP.s .n (O.mv rfl) ?_
  refine WP.s .n (O.lenS rfl Try.underlying29) ?_
  refine WP.s .n (O.mv rfl) ?_
  refine WP.nil ?_
  refine QE.next ?_
  refine CW.block ?_
  refine CW.loop3 (fun (r : List Nat) (c : Nat) (v : Value) => r.length ≤ x.length ∧ AddR x y r c) (fun (r : List Nat) (c : Nat) (v : Value) => [(0, kN.is x), (1, kN.is y), (5, VP.ex v), (6, (kInt .u64).is (c : Int)), (20, (kInt .i64).is (x.length : Int)), (21, (kInt .i64).is (r.length : Int))]) (fun (r : List Nat) (c : Nat) (v : Value) => [OB.row v 121 kLimb (fil (x.length + 1) r)]) (fun (r : List Nat) (c : Nat) (v : Value) => x.length - r.length) [] 0 v1 ⟨Nat.zero_le _, addR_0 x y⟩ (Imp.cons rfl (Imp.cons rfl (Imp.cons rfl (Imp.consLe rfl (is_eq (y := (0 : Int)) (by first | omega | simp)) (Imp.cons rfl (Imp.consLe rfl (is_eq (y := ([].length : Int)) (by first | omega | simp)) Imp.nil)))))) (OImp.os (.keepLe (OB.row_eq (fil_nil _)) .nil)) ?_
  intro r c v ⟨hr, hS⟩
  have hc := hS.2.1
  have hx := getD_lt l1 r.length
  have hy := getD_lt l2 r.length
  have hfl := fil_len (n := x.length + 1) (r := r) (by omega)
  refine CW.seq ?_
  refine CW.region ?_
  refine WP.s .n (O.lt rfl rfl) ?_
  refine WP.nil ?_
  refine QE.next ?_
  refine CW.seq ?_
  refine CW.condD rfl (fun h_t22 => ?_) (fun h_t22 => ?_)
  · refine CW.skip ?_
    refine QE.next ?_
    refine CW.seq ?_
    refine CW.block ?_
    refine CW.seq ?_
    refine CW.region ?_
    refine WP.s .n (O.mv rfl) ?_
    refine WP.s .n (O.asg rfl) ?_
    refine WP.nil ?_
    refine QE.next ?_
    refine CW.seq ?_
    refine CW.region ?_
    refine WP.s .n (O.mv rfl) ?_
    refine WP.s .n (O.mv rfl) ?_
    refine WP.s .n (O.mv rfl) ?_
    refine WP.s .n (O.ix r.length rfl rfl Try.underlying29 ty121 rfl (v := (x.getD r.length 0)) (gd 0 (by omega))) ?_
    refine WP.s .n (OpOk.le (O.ldP rfl ty121) (limb_le _)) ?_
    refine WP.s .n (O.cvt rfl Try.underlying121 Try.underlying173 (c := ((x.getD r.length 0) : Int)) (wu64 (by omega))) ?_
    refine WP.s .n (O.add rfl rfl (c := ((c : Int) + ((x.getD r.length 0) : Int))) (wu64 (by omega))) ?_
    refine WP.s .n (O.asg rfl) ?_
    refine WP.nil ?_
    refine QE.next ?_
    refine CW.seq ?_
    refine CW.seq ?_
    refine CW.region ?_
    refine WP.s .n (O.mv rfl) ?_
    refine WP.s .n (O.mv rfl) ?_
    refine WP.s .n (O.lenS rfl Try.underlying29) ?_
    refine WP.s .n (O.lt rfl rfl) ?_
    refine WP.nil ?_
    refine QE.next ?_
    refine CW.condD rfl (fun h_t34 => ?_) (fun h_t34 => ?_)
    · refine CW.region ?_
      refine WP.s .n (O.mv rfl) ?_
      refine WP.s .n (O.mv rfl) ?_
      refine WP.s .n (O.mv rfl) ?_
      refine WP.s .n (O.ix r.length rfl rfl Try.underlying29 ty121 rfl (v := (y.getD r.length 0)) (gd 0 (by omega))) ?_
      refine WP.s .n (OpOk.le (O.ldP rfl ty121) (limb_le _)) ?_
      refine WP.s .n (O.cvt rfl Try.underlying121 Try.underlying173 (c := ((y.getD r.length 0) : Int)) (wu64 (by omega))) ?_
      refine WP.s .n (O.add rfl rfl (c := (((c : Int) + ((x.getD r.length 0) : Int)) + ((y.getD r.length 0) : Int))) (wu64 (by omega))) ?_
      refine WP.s .n (O.asg rfl) ?_
      refine WP.nil ?_
      refine QE.next ?_
      refine CW.seq ?_
      refine CW.region ?_
      refine WP.s .n (O.mv rfl) ?_
      refine WP.s .n (O.mv rfl) ?_
      refine WP.s .n (O.mv rfl) ?_
      refine WP.s .n (O.cvt rfl Try.underlying173 Try.underlying121 (c := (((c + x.getD r.length 0 + y.getD r.length 0) % 4294967296 : Nat) : Int)) (wr32 (by omega))) ?_
      refine WP.s .n (O.ixR (k := kLimb) (xs := fil (x.length + 1) r) (n := (r.length : Int)) r.length rfl rfl (mem_at 0 rfl) Try.underlying29 ty121 rfl (by omega)) ?_
      refine WP.t .n (O.stR 0 r.length rfl rfl (Lens.id _) rfl (y0 := ((fil (x.length + 1) r).getD r.length 0)) (gd 0 (by omega)) ty121 rfl (u32_limb (x := ((c + x.getD r.length 0 + y.getD r.length 0) % 4294967296 : Nat)) (by omega))) ?_
      refine WP.nil ?_
      refine QE.next ?_
      refine CW.region ?_
      refine WP.s .n (O.mv rfl) ?_
      refine WP.s .n (O.shr rfl rfl (by omega) (c := (((c + x.getD r.length 0 + y.getD r.length 0) / 2 ^ 32 : Nat) : Int)) (shrN 32 (by omega) rfl (by decide))) ?_
      refine WP.s .n (O.asg rfl) ?_
      refine WP.nil ?_
      refine QE.blkN ?_
      refine QE.next ?_
      refine CW.region ?_
      refine WP.s .n (O.add rfl rfl (c := ((r.length : Int) + 1)) (w64 (by omega))) ?_
      refine WP.s .n (O.mv rfl) ?_
      refine WP.nil ?_
      exact QE.round3 (r ++ [(c + x.getD r.length 0 + y.getD r.length 0) % 4294967296]) ((c + x.getD r.length 0 + y.getD r.length 0) / 2 ^ 32) v (by simp; omega) ⟨by simp; omega, addR_s l1 l2 hS⟩ (Imp.cons rfl (Imp.cons rfl (Imp.cons rfl (Imp.consLe rfl (is_eq (y := ((((c + x.getD r.length 0 + y.getD r.length 0) / 2 ^ 32) : Nat) : Int)) (by first | omega | simp)) (Imp.cons rfl (Imp.consLe rfl (is_eq (y := ((r ++ [(c + x.getD r.length 0 + y.getD r.length 0) % 4294967296]).length : Int)) (by first | omega | simp)) Imp.nil)))))) (OImp.os (.keepLe (OB.row_eq (fil_set (by omega))) .nil))
    · have hy0 := getD_out (l := y) (i := r.length) (by omega)
      refine CW.skip ?_
      refine QE.next ?_
      refine CW.seq ?_
      refine CW.region ?_
      refine WP.s .n (O.mv rfl) ?_
      refine WP.s .n (O.mv rfl) ?_
      refine WP.s .n (O.mv rfl) ?_
      refine WP.s .n (O.cvt rfl Try.underlying173 Try.underlying121 (c := (((c + x.getD r.length 0 + y.getD r.length 0) % 4294967296 : Nat) : Int)) (wr32 (by omega))) ?_
      refine WP.s .n (O.ixR (k := kLimb) (xs := fil (x.length + 1) r) (n := (r.length : Int)) r.length rfl rfl (mem_at 0 rfl) Try.underlying29 ty121 rfl (by omega)) ?_
      refine WP.t .n (O.stR 0 r.length rfl rfl (Lens.id _) rfl (y0 := ((fil (x.length + 1) r).getD r.length 0)) (gd 0 (by omega)) ty121 rfl (u32_limb (x := ((c + x.getD r.length 0 + y.getD r.length 0) % 4294967296 : Nat)) (by omega))) ?_
      refine WP.nil ?_
      refine QE.next ?_
      refine CW.region ?_
      refine WP.s .n (O.mv rfl) ?_
      refine WP.s .n (O.shr rfl rfl (by omega) (c := (((c + x.getD r.length 0 + y.getD r.length 0) / 2 ^ 32 : Nat) : Int)) (shrN 32 (by omega) rfl (by decide))) ?_
      refine WP.s .n (O.asg rfl) ?_
      refine WP.nil ?_
      refine QE.blkN ?_
      refine QE.next ?_
      refine CW.region ?_
      refine WP.s .n (O.add rfl rfl (c := ((r.length : Int) + 1)) (w64 (by omega))) ?_
      refine WP.s .n (O.mv rfl) ?_
      refine WP.nil ?_
      exact QE.round3 (r ++ [(c + x.getD r.length 0 + y.getD r.length 0) % 4294967296]) ((c + x.getD r.length 0 + y.getD r.length 0) / 2 ^ 32) v (by simp; omega) ⟨by simp; omega, addR_s l1 l2 hS⟩ (Imp.cons rfl (Imp.cons rfl (Imp.cons rfl (Imp.consLe rfl (is_eq (y := ((((c + x.getD r.length 0 + y.getD r.length 0) / 2 ^ 32) : Nat) : Int)) (by first | omega | simp)) (Imp.cons rfl (Imp.consLe rfl (is_eq (y := ((r ++ [(c + x.getD r.length 0 + y.getD r.length 0) % 4294967296]).length : Int)) (by first | omega | simp)) Imp.nil)))))) (OImp.os (.keepLe (OB.row_eq (fil_set (by omega))) .nil))
  · refine CW.exit ?_
    refine QE.thenE ?_
    refine QE.thenE ?_
    refine QE.blkH ?_
    refine QE.next ?_
    refine CW.seq ?_
    have hrx : r.length = x.length := by omega
    refine CW.region ?_
    refine WP.s .n (O.mv rfl) ?_
    refine WP.s .n (O.mv rfl) ?_
    refine WP.s .n (O.lenS rfl Try.underlying29) ?_
    refine WP.s .n (O.mv rfl) ?_
    refine WP.s .n (O.cvt rfl Try.underlying173 Try.underlying121 (c := (c : Int)) (wrs32 (by omega))) ?_
    refine WP.s .n (O.ixR (k := kLimb) (xs := fil (x.length + 1) r) (n := (x.length : Int)) x.length rfl rfl (mem_at 0 rfl) Try.underlying29 ty121 rfl (by omega)) ?_
    refine WP.t .n (O.stR 0 x.length rfl rfl (Lens.id _) rfl (y0 := ((fil (x.length + 1) r).getD x.length 0)) (gd 0 (by omega)) ty121 rfl (u32_limb (x := c) (by omega))) ?_
    refine WP.nil ?_
    refine QE.next ?_
    refine CW.seq ?_
    refine ST.obtold (b' := OB.row v 121 kLimb (r ++ [c])) 0 rfl (OB.row_eq (by rw [← hrx]; exact fil_set_end (by omega))) ?_
    refine CW.region ?_
    refine WP.s .n (O.mv rfl) ?_
    refine ST.freeze 0 rfl (.keep (i := 0) rfl (.keep (i := 1) rfl (.hit (i := 5) rfl (.keep (i := 6) rfl (.keep (i := 20) rfl (.keep (i := 21) rfl (.keep (i := 22) rfl (.hit (i := 50) rfl (.keep (i := 51) rfl (.keep (i := 52) rfl (.keep (i := 53) rfl (.keep (i := 54) rfl (.keep (i := 55) rfl (.hit (i := 56) rfl .nil)))))))))))))) ?_
    refine WP.s .n (O.fn fn197 (evs.c rfl evs.nil) (c_nat_trim (r ++ [c]))) ?_
    refine WP.s .n (O.asg rfl) ?_
    refine WP.nil ?_
    refine QE.next ?_
    refine CW.ret ?_
    refine ST.told 4 rfl (is_eq (y := (limbs (nval a + nval b))) (by rw [addR_end hS hrx hlen, hsum])) ?_
    exact QE.done (.inl rfl) rfl (ResOk.t rfl ResOk.nil) (OImp.sub (List.nil_sublist _)) ⟨rfl, rfl⟩

set_option maxRecDepth 20000 in
set_option maxHeartbeats 1000000 in
theorem c_nat_less (x y : List Nat) (hl : y.length ≤ x.length) (hle : nval y ≤ nval x) : Fn Try.prog 198 [kN.is x, kN.is y] (kN.is (limbs (nval x - nval y))) := by
  refine Con.enter Try.func198 rfl rfl fun m w => ?_
  refine ST.fact (i := 0) rfl kN_lims fun l1 => ?_
  refine ST.fact (i := 1) rfl kN_lims fun l2 => ?_
  refine ST.fact (i := 0) rfl sl_len fun hB => ?_
  refine CW.seq ?_
  refine CW.region ?_
  refine WP.s .n (O.asg rfl) ?_
  refine WP.nil ?_
  refine QE.next ?_
  refine CW.seq ?_
  refine CW.region ?_
  refine WP.s .n (O.mv rfl) ?_
  refine WP.s .n (O.lenS rfl Try.underlying29) ?_
  refine WP.mk x.length .n rfl rfl rfl (by omega) Try.underlying29 el121_limb z121_limb fun v1 => ?_
  refine WP.s .n (O.asg rfl) ?_
  refine WP.nil ?_
  refine QE.next ?_
  refine CW.seq ?_
  refine CW.region ?_
  refine WP.s .n (O.asg rfl) ?_
  refine WP.nil ?_
  refine QE.next ?_
  refine CW.seq ?_
  refine CW.seq ?_
  refine CW.region ?_
  refine WP.s .n (O.mv rfl) ?_
  refine WP.s .n (O.lenS rfl Try.underlying29) ?_
  refine WP.s .n (O.mv rfl) ?_
  refine WP.nil ?_
  refine QE.next ?_
  refine CW.block ?_
  refine CW.loop3 (fun (r : List Nat) (c : Nat) (v : Value) => r.length ≤ x.length ∧ LessR x y r c) (fun (r : List Nat) (c : Nat) (v : Value) => [(0, kN.is x), (1, kN.is y), (5, VP.ex v), (6, (kInt .u64).is (c : Int)), (13, (kInt .i64).is (x.length : Int)), (14, (kInt .i64).is (r.length : Int))]) (fun (r : List Nat) (c : Nat) (v : Value) => [OB.row v 121 kLimb (fil x.length r)]) (fun (r : List Nat) (c : Nat) (v : Value) => x.length - r.length) [] 0 v1 ⟨Nat.zero_le _, lessR_0 x y⟩ (Imp.cons rfl (Imp.cons rfl (Imp.cons rfl (Imp.consLe rfl (is_eq (y := (0 : Int)) (by first | omega | simp)) (Imp.cons rfl (Imp.consLe rfl (is_eq (y := ([].length : Int)) (by first | omega | simp)) Imp.nil)))))) (OImp.os (.keepLe (OB.row_eq (fil_nil _)) .nil)) ?_
  intro r c v ⟨hr, hA⟩
  have hc := hA.2.1
  have hx := getD_lt l1 r.length
  have hy := getD_lt l2 r.length
  have hfl := fil_len (n := x.length) (r := r) (by omega)
  refine CW.seq ?_
  refine CW.region ?_
  refine WP.s .n (O.lt rfl rfl) ?_
  refine WP.nil ?_
  refine QE.next ?_
  refine CW.seq ?_
  refine CW.condD rfl (fun h_t15 => ?_) (fun h_t15 => ?_)
  · refine CW.skip ?_
    refine QE.next ?_
    refine CW.seq ?_
    refine CW.block ?_
    refine CW.seq ?_
    refine CW.region ?_
    refine WP.s .n (O.mv rfl) ?_
    refine WP.s .n (O.asg rfl) ?_
    refine WP.nil ?_
    refine QE.next ?_
    refine CW.seq ?_
    refine CW.region ?_
    refine WP.s .n (O.mv rfl) ?_
    refine WP.s .n (O.mv rfl) ?_
    refine WP.s .n (O.ix r.length rfl rfl Try.underlying29 ty121 rfl (v := (x.getD r.length 0)) (gd 0 (by omega))) ?_
    refine WP.s .n (OpOk.le (O.ldP rfl ty121) (limb_le _)) ?_
    refine WP.s .n (O.cvt rfl Try.underlying121 Try.underlying173 (c := ((x.getD r.length 0) : Int)) (wu64 (by omega))) ?_
    refine WP.s .n (O.mv rfl) ?_
    refine WP.s .n (O.sub rfl rfl (c := ((lessV c (x.getD r.length 0) 0 : Nat) : Int)) (less_sub1 hc hx)) ?_
    refine WP.s .n (O.asg rfl) ?_
    refine WP.nil ?_
    refine QE.next ?_
    refine CW.seq ?_
    refine CW.seq ?_
    refine CW.region ?_
    refine WP.s .n (O.mv rfl) ?_
    refine WP.s .n (O.mv rfl) ?_
    refine WP.s .n (O.lenS rfl Try.underlying29) ?_
    refine WP.s .n (O.lt rfl rfl) ?_
    refine WP.nil ?_
    refine QE.next ?_
    refine CW.condD rfl (fun h_t27 => ?_) (fun h_t27 => ?_)
    · refine CW.region ?_
      refine WP.s .n (O.mv rfl) ?_
      refine WP.s .n (O.mv rfl) ?_
      refine WP.s .n (O.mv rfl) ?_
      refine WP.s .n (O.ix r.length rfl rfl Try.underlying29 ty121 rfl (v := (y.getD r.length 0)) (gd 0 (by omega))) ?_
      refine WP.s .n (OpOk.le (O.ldP rfl ty121) (limb_le _)) ?_
      refine WP.s .n (O.cvt rfl Try.underlying121 Try.underlying173 (c := ((y.getD r.length 0) : Int)) (wu64 (by omega))) ?_
      refine WP.s .n (O.sub rfl rfl (c := ((lessV c (x.getD r.length 0) (y.getD r.length 0) : Nat) : Int)) (less_sub2 hc hx hy)) ?_
      refine WP.s .n (O.asg rfl) ?_
      refine WP.nil ?_
      refine QE.next ?_
      refine CW.seq ?_
      refine CW.region ?_
      refine WP.s .n (O.mv rfl) ?_
      refine WP.s .n (O.mv rfl) ?_
      refine WP.s .n (O.mv rfl) ?_
      refine WP.s .n (O.cvt rfl Try.underlying173 Try.underlying121 (c := ((lessV c (x.getD r.length 0) (y.getD r.length 0) % 4294967296 : Nat) : Int)) (wr32 rfl)) ?_
      refine WP.s .n (O.ixR (k := kLimb) (xs := fil x.length r) (n := (r.length : Int)) r.length rfl rfl (mem_at 0 rfl) Try.underlying29 ty121 rfl (by omega)) ?_
      refine WP.t .n (O.stR 0 r.length rfl rfl (Lens.id _) rfl (y0 := ((fil x.length r).getD r.length 0)) (gd 0 (by omega)) ty121 rfl (u32_limb (x := (lessV c (x.getD r.length 0) (y.getD r.length 0) % 4294967296 : Nat)) (by omega))) ?_
      refine WP.nil ?_
      refine QE.next ?_
      refine CW.region ?_
      refine WP.s .n (O.mv rfl) ?_
      refine WP.s .n (O.shr rfl rfl (by omega) (c := ((lessV c (x.getD r.length 0) (y.getD r.length 0) / 2 ^ 63 : Nat) : Int)) (shrN 63 rfl rfl (by decide))) ?_
      refine WP.s .n (O.asg rfl) ?_
      refine WP.nil ?_
      refine QE.blkN ?_
      refine QE.next ?_
      refine CW.region ?_
      refine WP.s .n (O.add rfl rfl (c := ((r.length : Int) + 1)) (w64 (by omega))) ?_
      refine WP.s .n (O.mv rfl) ?_
      refine WP.nil ?_
      exact QE.round3 (r ++ [lessV c (x.getD r.length 0) (y.getD r.length 0) % 4294967296]) (lessV c (x.getD r.length 0) (y.getD r.length 0) / 2 ^ 63) v (by simp; omega) ⟨by simp; omega, lessR_s l1 l2 hA⟩ (Imp.cons rfl (Imp.cons rfl (Imp.cons rfl (Imp.consLe rfl (is_eq (y := (((lessV c (x.getD r.length 0) (y.getD r.length 0) / 2 ^ 63) : Nat) : Int)) (by first | omega | simp)) (Imp.cons rfl (Imp.consLe rfl (is_eq (y := ((r ++ [lessV c (x.getD r.length 0) (y.getD r.length 0) % 4294967296]).length : Int)) (by first | omega | simp)) Imp.nil)))))) (OImp.os (.keepLe (OB.row_eq (fil_set (by omega))) .nil))
    · have hy0 := getD_out (l := y) (i := r.length) (by omega)
      refine ST.told 8 rfl (is_eq (y := ((lessV c (x.getD r.length 0) (y.getD r.length 0) : Nat) : Int)) (by rw [hy0])) ?_
      refine CW.skip ?_
      refine QE.next ?_
      refine CW.seq ?_
      refine CW.region ?_
      refine WP.s .n (O.mv rfl) ?_
      refine WP.s .n (O.mv rfl) ?_
      refine WP.s .n (O.mv rfl) ?_
      refine WP.s .n (O.cvt rfl Try.underlying173 Try.underlying121 (c := ((lessV c (x.getD r.length 0) (y.getD r.length 0) % 4294967296 : Nat) : Int)) (wr32 rfl)) ?_
      refine WP.s .n (O.ixR (k := kLimb) (xs := fil x.length r) (n := (r.length : Int)) r.length rfl rfl (mem_at 0 rfl) Try.underlying29 ty121 rfl (by omega)) ?_
      refine WP.t .n (O.stR 0 r.length rfl rfl (Lens.id _) rfl (y0 := ((fil x.length r).getD r.length 0)) (gd 0 (by omega)) ty121 rfl (u32_limb (x := (lessV c (x.getD r.length 0) (y.getD r.length 0) % 4294967296 : Nat)) (by omega))) ?_
      refine WP.nil ?_
      refine QE.next ?_
      refine CW.region ?_
      refine WP.s .n (O.mv rfl) ?_
      refine WP.s .n (O.shr rfl rfl (by omega) (c := ((lessV c (x.getD r.length 0) (y.getD r.length 0) / 2 ^ 63 : Nat) : Int)) (shrN 63 rfl rfl (by decide))) ?_
      refine WP.s .n (O.asg rfl) ?_
      refine WP.nil ?_
      refine QE.blkN ?_
      refine QE.next ?_
      refine CW.region ?_
      refine WP.s .n (O.add rfl rfl (c := ((r.length : Int) + 1)) (w64 (by omega))) ?_
      refine WP.s .n (O.mv rfl) ?_
      refine WP.nil ?_
      exact QE.round3 (r ++ [lessV c (x.getD r.length 0) (y.getD r.length 0) % 4294967296]) (lessV c (x.getD r.length 0) (y.getD r.length 0) / 2 ^ 63) v (by simp; omega) ⟨by simp; omega, lessR_s l1 l2 hA⟩ (Imp.cons rfl (Imp.cons rfl (Imp.cons rfl (Imp.consLe rfl (is_eq (y := (((lessV c (x.getD r.length 0) (y.getD r.length 0) / 2 ^ 63) : Nat) : Int)) (by first | omega | simp)) (Imp.cons rfl (Imp.consLe rfl (is_eq (y := ((r ++ [lessV c (x.getD r.length 0) (y.getD r.length 0) % 4294967296]).length : Int)) (by first | omega | simp)) Imp.nil)))))) (OImp.os (.keepLe (OB.row_eq (fil_set (by omega))) .nil))
  · refine CW.exit ?_
    refine QE.thenE ?_
    refine QE.thenE ?_
    refine QE.blkH ?_
    refine QE.next ?_
    refine CW.seq ?_
    have hrx : r.length = x.length := by omega
    refine ST.obtold (b' := OB.row v 121 kLimb r) 0 rfl (OB.row_eq (fil_full hrx)) ?_
    refine CW.region ?_
    refine WP.s .n (O.mv rfl) ?_
    refine ST.freeze 0 rfl (.keep (i := 0) rfl (.keep (i := 1) rfl (.hit (i := 5) rfl (.keep (i := 6) rfl (.keep (i := 13) rfl (.keep (i := 14) rfl (.keep (i := 15) rfl (.hit (i := 43) rfl .nil)))))))) ?_
    refine WP.s .n (O.fn fn197 (evs.c rfl evs.nil) (c_nat_trim r)) ?_
    refine WP.s .n (O.asg rfl) ?_
    refine WP.nil ?_
    refine QE.next ?_
    refine CW.ret ?_
    refine ST.told 4 rfl (is_eq (y := (limbs (nval x - nval y))) (by rw [lessR_end hA hrx hl hle])) ?_
    exact QE.done (.inl rfl) rfl (ResOk.t rfl ResOk.nil) (OImp.sub (List.nil_sublist _)) ⟨rfl, rfl⟩

set_option maxRecDepth 20000 in
set_option maxHeartbeats 1000000 in
theorem c_nat_Sub (a b : List Nat) : Fn Try.prog 151 [kN.is a, kN.is b] (VP.tup [kN.is (if nval a < nval b then [] else limbs (nval a - nval b)), (kInt .i64).is (if nval a < nval b then 10 else 0)]) := by
  refine Con.enter Try.func151 rfl rfl fun m w => ?_
  refine CW.seq ?_
  refine CW.region ?_
  refine WP.s .n (O.asg rfl) ?_
  refine WP.s .n (O.asg rfl) ?_
  refine WP.nil ?_
  refine QE.next ?_
  refine CW.seq ?_
  refine CW.seq ?_
  refine CW.region ?_
  refine WP.s .n (O.mv rfl) ?_
  refine WP.s .n (O.mv rfl) ?_
  refine WP.s .n (O.fn fn148 (evs.c rfl (evs.c rfl evs.nil)) (c_nat_Cmp a b)) ?_
  refine WP.s .n (O.lt rfl rfl) ?_
  refine WP.nil ?_
  refine QE.next ?_
  refine CW.condD rfl (fun h_t9 => ?_) (fun h_t9 => ?_)
  · refine CW.seq ?_
    refine CW.region ?_
    refine WP.s .n (O.asg rfl) ?_
    refine WP.s .n (O.asg rfl) ?_
    refine WP.nil ?_
    refine QE.next ?_
    refine CW.ret ?_
    refine QE.thenR ?_
    refine ST.told (q := kN.is ([] : List Nat)) 4 rfl (nil_le _) ?_
    refine ST.told 4 rfl (is_eq (y := (if nval a < nval b then [] else limbs (nval a - nval b))) (by rw [if_pos (cmpI_lt h_t9)])) ?_
    refine ST.told 5 rfl (is_eq (y := (if nval a < nval b then 10 else 0)) (by rw [if_pos (cmpI_lt h_t9)])) ?_
    exact QE.done (.inl rfl) rfl (ResOk.t rfl (ResOk.t rfl ResOk.nil)) (OImp.sub (List.nil_sublist _)) ⟨rfl, rfl⟩
  · refine CW.skip ?_
    refine QE.next ?_
    refine CW.seq ?_
    refine CW.region ?_
    refine WP.s .n (O.mv rfl) ?_
    refine WP.s .n (O.fn fn197 (evs.c rfl evs.nil) (c_nat_trim a)) ?_
    refine WP.s .n (O.mv rfl) ?_
    refine WP.s .n (O.fn fn197 (evs.c rfl evs.nil) (c_nat_trim b)) ?_
    refine WP.s .n (O.fn fn198 (evs.c rfl (evs.c rfl evs.nil)) (c_nat_less (limbs (nval a)) (limbs (nval b)) (limbs_mono (by have := cmpI_ge h_t9; omega)) (by rw [nval_limbs, nval_limbs]; exact cmpI_ge h_t9))) ?_
    refine WP.s .n (O.asg rfl) ?_
    refine WP.s .n (O.asg rfl) ?_
    refine WP.nil ?_
    refine QE.next ?_
    refine CW.ret ?_
    refine ST.told 4 rfl (is_eq (y := (if nval a < nval b then [] else limbs (nval a - nval b))) (by rw [if_neg (Nat.not_lt.2 (cmpI_ge h_t9)), nval_limbs, nval_limbs])) ?_
    refine ST.told 5 rfl (is_eq (y := (if nval a < nval b then 10 else 0)) (by rw [if_neg (Nat.not_lt.2 (cmpI_ge h_t9))])) ?_
    exact QE.done (.inl rfl) rfl (ResOk.t rfl (ResOk.t rfl ResOk.nil)) (OImp.sub (List.nil_sublist _)) ⟨rfl, rfl⟩

end Fw
