/- Frame, facts and contracts for QuadReduced. -/
import Derived.Test.YtjbfmocbophmlaaCQuadReducedC
/- Gauss on binary forms: what the functions answer. -/
set_option linter.unusedVariables false
set_option linter.unusedSimpArgs false
set_option exponentiation.threshold 400
namespace Fw
open Go Go.Proofs

set_option maxRecDepth 20000 in
set_option maxHeartbeats 1000000 in
theorem c_law22_eq (x y : Bool × List Nat) : Fn Try.prog 7 [kI.is x, kI.is y] (kBool.is (decide (x = y))) := by
  refine Con.enter Try.func7 rfl rfl fun m w => ?_
  refine CW.seq ?_
  refine CW.region ?_
  refine WP.bx .n rfl fun b1 => ?_
  refine WP.bx .n rfl fun b2 => ?_
  refine WP.s .n (O.asg rfl) ?_
  refine WP.nil ?_
  refine QE.next ?_
  refine CW.seq ?_
  refine CW.seq ?_
  refine CW.region ?_
  refine WP.s .n (O.fa rfl fld24_0 rfl) ?_
  refine WP.s .n (O.ld rfl (mem_at 1 rfl) (Lens.fst (Lens.id _)) ty4 rfl) ?_
  refine WP.s .n (O.fa rfl fld24_0 rfl) ?_
  refine WP.s .n (O.ld rfl (mem_at 0 rfl) (Lens.fst (Lens.id _)) ty4 rfl) ?_
  refine WP.s .n (O.neB rfl rfl Try.underlying4) ?_
  refine WP.s .n (O.mv rfl) ?_
  refine WP.splitD 11 rfl (fun h_t11 => ?_) (fun h_t11 => ?_)
  · refine WP.ku (b := true) rfl rfl ?_
    refine WP.ku (b := true) rfl rfl ?_
    refine WP.ku (b := true) rfl rfl ?_
    refine WP.ku (b := true) rfl rfl ?_
    refine WP.ku (b := true) rfl rfl ?_
    refine WP.ku (b := true) rfl rfl ?_
    refine WP.ku (b := true) rfl rfl ?_
    refine WP.s .n (O.pickT rfl rfl) ?_
    refine WP.nil ?_
    refine QE.next ?_
    refine CW.condT rfl ?_
    refine CW.seq ?_
    refine CW.region ?_
    refine WP.s .n (O.asg rfl) ?_
    refine WP.nil ?_
    refine QE.next ?_
    refine CW.ret ?_
    refine QE.thenR ?_
    refine ST.told 4 rfl (is_eq (y := (decide (x = y))) (by rw [eq_comm, decide_eq_false_iff_not]; intro e; exact h_t11 (by rw [e]))) ?_
    exact QE.done (.inl rfl) rfl (ResOk.t rfl ResOk.nil) (OImp.sub (List.nil_sublist _)) ⟨rfl, rfl⟩
  · refine WP.s (.g rfl rfl) (O.fa rfl fld24_1 rfl) ?_
    refine WP.s (.g rfl rfl) (O.ld rfl (mem_at 1 rfl) (Lens.snd (Lens.id _)) ty22 rfl) ?_
    refine WP.s (.g rfl rfl) (O.lenS rfl Try.underlying22) ?_
    refine WP.s (.g rfl rfl) (O.fa rfl fld24_1 rfl) ?_
    refine WP.s (.g rfl rfl) (O.ld rfl (mem_at 0 rfl) (Lens.snd (Lens.id _)) ty22 rfl) ?_
    refine WP.s (.g rfl rfl) (O.lenS rfl Try.underlying22) ?_
    refine WP.s (.g rfl rfl) (O.ne rfl rfl) ?_
    refine WP.s .n (O.pickF rfl rfl) ?_
    refine WP.nil ?_
    refine QE.next ?_
    refine CW.condD rfl (fun h_t19 => ?_) (fun h_t19 => ?_)
    · refine CW.seq ?_
      refine CW.region ?_
      refine WP.s .n (O.asg rfl) ?_
      refine WP.nil ?_
      refine QE.next ?_
      refine CW.ret ?_
      refine QE.thenR ?_
      refine ST.told 4 rfl (is_eq (y := (decide (x = y))) (by rw [eq_comm, decide_eq_false_iff_not]; intro e; exact h_t19 (by rw [e]))) ?_
      exact QE.done (.inl rfl) rfl (ResOk.t rfl ResOk.nil) (OImp.sub (List.nil_sublist _)) ⟨rfl, rfl⟩
    · refine CW.skip ?_
      refine QE.next ?_
      refine CW.seq ?_
      refine CW.seq ?_
      refine ST.fact (i := 13) rfl sl_len fun hB => ?_
      refine CW.region ?_
      refine WP.s .n (O.asg rfl) ?_
      refine WP.nil ?_
      refine QE.next ?_
      refine CW.block ?_
      refine CW.loop (fun (i : Nat) => i ≤ x.2.length ∧ x.2.take i = y.2.take i) (fun (i : Nat) => [(2, VP.ex (.pointer (some ⟨b1, 0, none⟩))), (3, VP.ex (.pointer (some ⟨b2, 0, none⟩))), (5, (kInt .i64).is (i : Int))]) (fun (i : Nat) => [OB.box b2 24 kI y, OB.box b1 24 kI x]) (fun (i : Nat) => x.2.length - i) 0 ⟨Nat.zero_le _, rfl⟩ (Imp.cons rfl (Imp.cons rfl (Imp.consLe rfl (is_eq (y := (0 : Int)) (by omega)) Imp.nil))) (OImp.refl _) ?_
      intro i ⟨hi, ht⟩
      refine CW.seq ?_
      refine CW.seq ?_
      refine CW.region ?_
      refine WP.s .n (O.mv rfl) ?_
      refine WP.s .n (O.fa rfl fld24_1 rfl) ?_
      refine WP.s .n (O.ld rfl (mem_at 1 rfl) (Lens.snd (Lens.id _)) ty22 rfl) ?_
      refine WP.s .n (O.lenS rfl Try.underlying22) ?_
      refine WP.s .n (O.lt rfl rfl) ?_
      refine WP.nil ?_
      refine QE.next ?_
      refine CW.condD rfl (fun h_t24 => ?_) (fun h_t24 => ?_)
      · refine CW.skip ?_
        refine QE.next ?_
        refine CW.seq ?_
        refine CW.block ?_
        refine CW.seq ?_
        refine CW.draw (Γ := [.fr (VP.ex (.pointer (some ⟨b1, 1, none⟩))), .fr (kN.is x.2), .fr ((kInt .i64).is (i : Int)), .fr (VP.pim kLimb (x.2.getD i 0)), .fr ((kInt .u32).is ((x.2.getD i 0) : Int)), .fr (VP.ex (.pointer (some ⟨b2, 1, none⟩))), .fr (kN.is y.2), .fr ((kInt .i64).is (i : Int)), .fr (VP.pim kLimb (y.2.getD i 0)), .fr ((kInt .u32).is ((y.2.getD i 0) : Int)), .fr (kBool.is (decide (((x.2.getD i 0) : Int) ≠ ((y.2.getD i 0) : Int))))]) (lates := [false, false, false, false, false, false, false, false, false, false, false]) (by kernel_rfl) (Chk.of rfl (by kernel_rfl) rfl) (fun _ _ _ _ _ h => h) (fun q_ x_ h_ => ?_) (fun σ1 => ?_)
        · match q_, h_ with
          | 0, h_ => cases h_; exact Ob.f rfl .n fun N => (O.fa rfl fld24_1 rfl)
          | 1, h_ => cases h_; exact Ob.f rfl .n fun N => (O.ld rfl (mem_app N (mem_at 1 rfl)) (Lens.snd (Lens.id _)) ty22 rfl)
          | 2, h_ => cases h_; exact Ob.f rfl .n fun N => (O.mv rfl)
          | 3, h_ => cases h_; exact Ob.f rfl .n fun N => (O.ix i rfl rfl Try.underlying22 ty50 rfl (v := (x.2.getD i 0)) (gd 0 (by omega)))
          | 4, h_ => cases h_; exact Ob.f rfl .n fun N => (OpOk.le (O.ldP rfl ty50) (limb_le _))
          | 5, h_ => cases h_; exact Ob.f rfl .n fun N => (O.fa rfl fld24_1 rfl)
          | 6, h_ => cases h_; exact Ob.f rfl .n fun N => (O.ld rfl (mem_app N (mem_at 0 rfl)) (Lens.snd (Lens.id _)) ty22 rfl)
          | 7, h_ => cases h_; exact Ob.f rfl .n fun N => (O.mv rfl)
          | 8, h_ => cases h_; exact Ob.f rfl .n fun N => (O.ix i rfl rfl Try.underlying22 ty50 rfl (v := (y.2.getD i 0)) (gd 0 (by omega)))
          | 9, h_ => cases h_; exact Ob.f rfl .n fun N => (OpOk.le (O.ldP rfl ty50) (limb_le _))
          | 10, h_ => cases h_; exact Ob.f rfl .n fun N => (O.ne rfl rfl)
          | n_ + 11, h_ => simp at h_
        refine WP.nil ?_
        refine QE.next ?_
        refine CW.condD rfl (fun h_t37 => ?_) (fun h_t37 => ?_)
        · refine CW.seq ?_
          refine CW.region ?_
          refine WP.s .n (O.asg rfl) ?_
          refine WP.nil ?_
          refine QE.next ?_
          refine CW.ret ?_
          refine QE.blkR ?_
          refine QE.thenR ?_
          refine QE.thenR ?_
          refine QE.blkR ?_
          refine QE.thenR ?_
          refine ST.told 4 rfl (is_eq (y := (decide (x = y))) (by rw [eq_comm, decide_eq_false_iff_not]; intro e; exact h_t37 (by rw [e]))) ?_
          exact QE.done (.inl rfl) rfl (ResOk.t rfl ResOk.nil) (OImp.sub (List.nil_sublist _)) ⟨rfl, rfl⟩
        · refine CW.skip ?_
          refine QE.blkN ?_
          refine QE.next ?_
          refine CW.region ?_
          refine WP.s .n (O.mv rfl) ?_
          refine WP.s .n (O.add rfl rfl (c := ((i : Int) + 1)) (w64 (by omega))) ?_
          refine WP.s .n (O.asg rfl) ?_
          refine WP.nil ?_
          exact QE.round (i + 1) (by omega) ⟨by omega, eq_take (d := 0) (by omega) (by omega) ht (by omega)⟩ (Imp.cons rfl (Imp.cons rfl (Imp.consLe rfl (is_eq (y := (((i + 1) : Nat) : Int)) (by omega)) Imp.nil))) (OImp.refl _)
      · refine CW.exit ?_
        refine QE.thenE ?_
        refine QE.thenE ?_
        refine QE.blkH ?_
        refine QE.next ?_
        refine CW.seq ?_
        refine CW.region ?_
        refine WP.s .n (O.asg rfl) ?_
        refine WP.nil ?_
        refine QE.next ?_
        refine CW.ret ?_
        refine ST.told 4 rfl (is_eq (y := (decide (x = y))) (by rw [eq_comm, decide_eq_true_iff]; exact Prod.ext (by simpa using h_t11) (eq_full (i := i) (by omega) (by omega) ht))) ?_
        exact QE.done (.inl rfl) rfl (ResOk.t rfl ResOk.nil) (OImp.sub (List.nil_sublist _)) ⟨rfl, rfl⟩

set_option maxRecDepth 20000 in
set_option maxHeartbeats 1000000 in
theorem c_quad_sound (A B C : Int) (hD : DiS A B C) : Fn Try.prog 14 [(kPair kZ (kPair kZ kZ)).is (A, B, C)] (kBool.is (decide (posF A B C))) := by
  refine Con.enter Try.func14 rfl rfl fun m w => ?_
  refine CW.seq ?_
  refine CW.region ?_
  refine WP.bx .n rfl fun b1 => ?_
  refine WP.s .n (O.asg rfl) ?_
  refine WP.nil ?_
  refine QE.next ?_
  refine CW.seq ?_
  refine CW.draw (Γ := [.fr (kC.is 4), .fr (VP.ex (.pointer (some ⟨b1, 0, none⟩))), .fr (kZ.is A), .fr (VP.ex (.pointer (some ⟨b1, 4, none⟩))), .fr (kZ.is C), .fr (kC.is (A * C)), .fr (kC.is (4 * (A * C))), .al (fun b => OB.box b 24 kC 0)]) (lates := [false, false, false, false, false, false, false, false]) (by kernel_rfl) (Chk.of rfl (by kernel_rfl) rfl) (fun _ _ _ _ _ h => h) (fun q_ x_ h_ => ?_) (fun σ1 => ?_)
  · match q_, h_ with
    | 0, h_ => cases h_; exact Ob.f rfl .n fun N => (O.fn fn11 (evs.l rfl (i64_int (by omega)) evs.nil) (c_zint_Of 4))
    | 1, h_ => cases h_; exact Ob.f rfl .n fun N => (O.fa rfl fld26_0 rfl)
    | 2, h_ => cases h_; exact Ob.f rfl .n fun N => (O.ld (p := kZ.is A) rfl (mem_app N (mem_at 0 rfl)) (Lens.fst (Lens.id _)) ty24 rfl)
    | 3, h_ => cases h_; exact Ob.f rfl .n fun N => (O.fa rfl fld26_2 rfl)
    | 4, h_ => cases h_; exact Ob.f rfl .n fun N => (O.ld (p := kZ.is C) rfl (mem_app N (mem_at 0 rfl)) (Lens.snd (Lens.snd (Lens.id _))) ty24 rfl)
    | 5, h_ => cases h_; exact Ob.f rfl .n fun N => (O.fn fn20 (evs.c rfl (evs.c rfl evs.nil)) (c_zint_Mul A C))
    | 6, h_ => cases h_; exact Ob.f rfl .n fun N => (O.fn fn20 (evs.l rfl (kC_Z hD.f4) (evs.l rfl (kC_Z hD.ac) evs.nil)) (c_zint_Mul 4 (A * C)))
    | 7, h_ => cases h_; exact Ob.a rfl z24_C
    | n_ + 8, h_ => simp at h_
  refine WP.t .n (O.stW (l := kC) (u := 4 * (A * C)) 0 rfl rfl rfl ty24 rfl (VP.le_refl _)) ?_
  refine WP.nil ?_
  refine QE.next ?_
  refine CW.seq ?_
  by_cases hA : 0 < A
  · refine CW.draw (Γ := [.fr (VP.ex (.pointer (some ⟨b1, 0, none⟩))), .fr (kZ.is A), .fr ((kInt .i64).is A.sign), .fr (kBool.is true), .fr (kBool.is true), .fr (VP.ex (.pointer (some ⟨b1, 2, none⟩))), .fr (kZ.is B), .fr (VP.ex (.pointer (some ⟨b1, 2, none⟩))), .fr (kZ.is B), .fr (kC.is (B * B)), .fr (kC.is (4 * (A * C))), .fr ((kInt .i64).is (((B * B) - (4 * (A * C))).sign)), .fr (kBool.is (decide ((((B * B) - (4 * (A * C))).sign) < 0))), .fr (kBool.is (decide ((((B * B) - (4 * (A * C))).sign) < 0)))]) (lates := [false, false, false, false, false, false, false, false, false, false, false, false, false, false]) (by kernel_rfl) (Chk.of rfl (by kernel_rfl) rfl) (fun _ _ _ _ _ h => h) (fun q_ x_ h_ => ?_) (fun σ2 => ?_)
    · match q_, h_ with
      | 0, h_ => cases h_; exact Ob.f rfl .n fun N => (O.fa rfl fld26_0 rfl)
      | 1, h_ => cases h_; exact Ob.f rfl .n fun N => (O.ld (p := kZ.is A) rfl (mem_app N (mem_at 1 rfl)) (Lens.fst (Lens.id _)) ty24 rfl)
      | 2, h_ => cases h_; exact Ob.f rfl .n fun N => (O.fn fn18 (evs.c rfl evs.nil) (c_zint_Sign A))
      | 3, h_ => cases h_; exact Ob.f rfl .n fun N => (OpOk.le (O.gt rfl rfl) (is_eq (decide_eq_true (sgn_p hA))))
      | 4, h_ => cases h_; exact Ob.f rfl .n fun N => (O.mv rfl)
      | 5, h_ => cases h_; exact Ob.f rfl (.g rfl rfl) fun N => (O.fa rfl fld26_1 rfl)
      | 6, h_ => cases h_; exact Ob.f rfl (.g rfl rfl) fun N => (O.ld (p := kZ.is B) rfl (mem_app N (mem_at 1 rfl)) (Lens.snd (Lens.fst (Lens.id _))) ty24 rfl)
      | 7, h_ => cases h_; exact Ob.f rfl (.g rfl rfl) fun N => (O.fa rfl fld26_1 rfl)
      | 8, h_ => cases h_; exact Ob.f rfl (.g rfl rfl) fun N => (O.ld (p := kZ.is B) rfl (mem_app N (mem_at 1 rfl)) (Lens.snd (Lens.fst (Lens.id _))) ty24 rfl)
      | 9, h_ => cases h_; exact Ob.f rfl (.g rfl rfl) fun N => (O.fn fn20 (evs.c rfl (evs.c rfl evs.nil)) (c_zint_Mul B B))
      | 10, h_ => cases h_; exact Ob.f rfl (.g rfl rfl) fun N => (O.ld rfl (mem_app N (mem_at 0 rfl)) (Lens.id _) ty24 rfl)
      | 11, h_ => cases h_; exact Ob.f rfl (.g rfl rfl) fun N => (O.fn fn16 (evs.l rfl (kC_Z hD.bb) (evs.l rfl (kC_Z hD.ac4) evs.nil)) (c_zint_Compare (B * B) (4 * (A * C))))
      | 12, h_ => cases h_; exact Ob.f rfl (.g rfl rfl) fun N => (O.lt rfl rfl)
      | 13, h_ => cases h_; exact Ob.f rfl .n fun N => (O.pickT rfl rfl)
      | n_ + 14, h_ => simp at h_
    refine WP.s .n (O.asg rfl) ?_
    refine WP.nil ?_
    refine QE.next ?_
    refine CW.ret ?_
    refine ST.told 2 rfl (is_eq (y := (decide (posF A B C))) (sound_t hA)) ?_
    exact QE.done (.inl rfl) rfl (ResOk.t rfl ResOk.nil) (OImp.sub (List.nil_sublist _)) ⟨rfl, rfl⟩
  · refine CW.draw (Γ := [.fr (VP.ex (.pointer (some ⟨b1, 0, none⟩))), .fr (kZ.is A), .fr ((kInt .i64).is A.sign), .fr (kBool.is false), .fr (kBool.is false), .fr (VP.ex undef), .fr (VP.ex undef), .fr (VP.ex undef), .fr (VP.ex undef), .fr (VP.ex undef), .fr (VP.ex undef), .fr (VP.ex undef), .fr (VP.ex undef), .fr (kBool.is false)]) (lates := [false, false, false, false, false, false, false, false, false, false, false, false, false, false]) (by kernel_rfl) (Chk.of rfl (by kernel_rfl) rfl) (fun _ _ _ _ _ h => h) (fun q_ x_ h_ => ?_) (fun σ3 => ?_)
    · match q_, h_ with
      | 0, h_ => cases h_; exact Ob.f rfl .n fun N => (O.fa rfl fld26_0 rfl)
      | 1, h_ => cases h_; exact Ob.f rfl .n fun N => (O.ld (p := kZ.is A) rfl (mem_app N (mem_at 1 rfl)) (Lens.fst (Lens.id _)) ty24 rfl)
      | 2, h_ => cases h_; exact Ob.f rfl .n fun N => (O.fn fn18 (evs.c rfl evs.nil) (c_zint_Sign A))
      | 3, h_ => cases h_; exact Ob.f rfl .n fun N => (OpOk.le (O.gt rfl rfl) (is_eq (decide_eq_false (sgn_np hA))))
      | 4, h_ => cases h_; exact Ob.f rfl .n fun N => (O.mv rfl)
      | 5, h_ => cases h_; exact Ob.ku (b := false) rfl rfl rfl
      | 6, h_ => cases h_; exact Ob.ku (b := false) rfl rfl rfl
      | 7, h_ => cases h_; exact Ob.ku (b := false) rfl rfl rfl
      | 8, h_ => cases h_; exact Ob.ku (b := false) rfl rfl rfl
      | 9, h_ => cases h_; exact Ob.ku (b := false) rfl rfl rfl
      | 10, h_ => cases h_; exact Ob.ku (b := false) rfl rfl rfl
      | 11, h_ => cases h_; exact Ob.ku (b := false) rfl rfl rfl
      | 12, h_ => cases h_; exact Ob.ku (b := false) rfl rfl rfl
      | 13, h_ => cases h_; exact Ob.f rfl .n fun N => (O.pickF rfl rfl)
      | n_ + 14, h_ => simp at h_
    refine WP.s .n (O.asg rfl) ?_
    refine WP.nil ?_
    refine QE.next ?_
    refine CW.ret ?_
    refine ST.told 2 rfl (is_eq (y := (decide (posF A B C))) (sound_f hA)) ?_
    exact QE.done (.inl rfl) rfl (ResOk.t rfl ResOk.nil) (OImp.sub (List.nil_sublist _)) ⟨rfl, rfl⟩

set_option maxRecDepth 20000 in
set_option maxHeartbeats 1000000 in
theorem c_quad_shift (A B C k : Int) (hS : ShS A B C k) : Fn Try.prog 33 [(kPair kC (kPair kC kC)).is (A, B, C), kZ.is k] ((kPair kC (kPair kC kC)).is (A, (B + (A * k + A * k)), ((A * k + B) * k + C))) := by
  refine Con.enter Try.func33 rfl rfl fun m w => ?_
  refine CW.seq ?_
  refine CW.region ?_
  refine WP.bx .n rfl fun b1 => ?_
  refine WP.bx .n rfl fun b2 => ?_
  refine WP.al .n z26_pr_C_pr_C_C__ fun b3 => ?_
  refine WP.nil ?_
  refine QE.next ?_
  refine CW.seq ?_
  refine CW.region ?_
  refine WP.s .n (O.fa rfl fld26_0 rfl) ?_
  refine WP.s .n (O.ld (p := kC.is A) rfl (mem_at 2 rfl) (Lens.fst (Lens.id _)) ty24 rfl) ?_
  refine WP.s .n (O.ld rfl (mem_at 1 rfl) (Lens.id _) ty24 rfl) ?_
  refine WP.s .n (O.fn fn20 (evs.l rfl (kC_Z hS.a) (evs.c rfl evs.nil)) (c_zint_Mul A k)) ?_
  refine WP.al .n z24_C fun b4 => ?_
  refine WP.t .n (O.stW (l := kC) (u := A * k) 0 rfl rfl rfl ty24 rfl (VP.le_refl _)) ?_
  refine WP.nil ?_
  refine QE.next ?_
  refine CW.seq ?_
  refine CW.draw (Γ := [.fr (VP.ex (.pointer (some ⟨b1, 0, none⟩))), .fr (kC.is A), .fr (VP.ex (.pointer (some ⟨b1, 2, none⟩))), .fr (kC.is B), .fr (kC.is (A * k)), .fr (kC.is (A * k)), .fr (kC.is ((A * k) + (A * k))), .fr (kC.is (B + ((A * k) + (A * k)))), .fr (kC.is (A * k)), .fr (VP.ex (.pointer (some ⟨b1, 2, none⟩))), .fr (kC.is B), .fr (kC.is ((A * k) + B)), .fr (kZ.is k), .fr (kC.is (((A * k) + B) * k)), .fr (VP.ex (.pointer (some ⟨b1, 4, none⟩))), .fr (kC.is C), .fr (kC.is ((((A * k) + B) * k) + C)), .fr ((kPair kC (kPair kC kC)).is (A, (B + ((A * k) + (A * k)), (((A * k) + B) * k) + C)))]) (lates := [false, false, false, false, false, false, false, false, false, false, false, false, false, false, false, false, false, false]) (by kernel_rfl) (Chk.of rfl (by kernel_rfl) rfl) (fun _ _ _ _ _ h => h) (fun q_ x_ h_ => ?_) (fun σ1 => ?_)
  · match q_, h_ with
    | 0, h_ => cases h_; exact Ob.f rfl .n fun N => (O.fa rfl fld26_0 rfl)
    | 1, h_ => cases h_; exact Ob.f rfl .n fun N => (O.ld (p := kC.is A) rfl (mem_app N (mem_at 3 rfl)) (Lens.fst (Lens.id _)) ty24 rfl)
    | 2, h_ => cases h_; exact Ob.f rfl .n fun N => (O.fa rfl fld26_1 rfl)
    | 3, h_ => cases h_; exact Ob.f rfl .n fun N => (O.ld (p := kC.is B) rfl (mem_app N (mem_at 3 rfl)) (Lens.snd (Lens.fst (Lens.id _))) ty24 rfl)
    | 4, h_ => cases h_; exact Ob.f rfl .n fun N => (O.ld rfl (mem_app N (mem_at 0 rfl)) (Lens.id _) ty24 rfl)
    | 5, h_ => cases h_; exact Ob.f rfl .n fun N => (O.ld rfl (mem_app N (mem_at 0 rfl)) (Lens.id _) ty24 rfl)
    | 6, h_ => cases h_; exact Ob.f rfl .n fun N => (O.fn fn32 (evs.l rfl (kC_Z hS.ak) (evs.l rfl (kC_Z hS.ak) evs.nil)) (c_zint_Add (A * k) (A * k)))
    | 7, h_ => cases h_; exact Ob.f rfl .n fun N => (O.fn fn32 (evs.l rfl (kC_Z hS.b) (evs.l rfl (kC_Z hS.a2k) evs.nil)) (c_zint_Add B ((A * k) + (A * k))))
    | 8, h_ => cases h_; exact Ob.f rfl .n fun N => (O.ld rfl (mem_app N (mem_at 0 rfl)) (Lens.id _) ty24 rfl)
    | 9, h_ => cases h_; exact Ob.f rfl .n fun N => (O.fa rfl fld26_1 rfl)
    | 10, h_ => cases h_; exact Ob.f rfl .n fun N => (O.ld (p := kC.is B) rfl (mem_app N (mem_at 3 rfl)) (Lens.snd (Lens.fst (Lens.id _))) ty24 rfl)
    | 11, h_ => cases h_; exact Ob.f rfl .n fun N => (O.fn fn32 (evs.l rfl (kC_Z hS.ak) (evs.l rfl (kC_Z hS.b) evs.nil)) (c_zint_Add (A * k) B))
    | 12, h_ => cases h_; exact Ob.f rfl .n fun N => (O.ld rfl (mem_app N (mem_at 2 rfl)) (Lens.id _) ty24 rfl)
    | 13, h_ => cases h_; exact Ob.f rfl .n fun N => (O.fn fn20 (evs.l rfl (kC_Z hS.akb) (evs.c rfl evs.nil)) (c_zint_Mul ((A * k) + B) k))
    | 14, h_ => cases h_; exact Ob.f rfl .n fun N => (O.fa rfl fld26_2 rfl)
    | 15, h_ => cases h_; exact Ob.f rfl .n fun N => (O.ld (p := kC.is C) rfl (mem_app N (mem_at 3 rfl)) (Lens.snd (Lens.snd (Lens.id _))) ty24 rfl)
    | 16, h_ => cases h_; exact Ob.f rfl .n fun N => (O.fn fn32 (evs.l rfl (kC_Z hS.akbk) (evs.l rfl (kC_Z hS.c) evs.nil)) (c_zint_Add (((A * k) + B) * k) C))
    | 17, h_ => cases h_; exact Ob.f rfl .n fun N => (O.bld lit26_pr_C_pr_C_C__ rfl (evp.c rfl (evp.c rfl (evp.c rfl evp.n))) (.cons rfl (Lens.fst (Lens.id _)) (.cons rfl (Lens.snd (Lens.fst (Lens.id _))) (.cons rfl (Lens.snd (Lens.snd (Lens.id _))) (.nil _)))))
    | n_ + 18, h_ => simp at h_
  refine WP.t .n (O.stW (l := (kPair kC (kPair kC kC))) (u := (A, (B + ((A * k) + (A * k)), (((A * k) + B) * k) + C))) 1 rfl rfl rfl ty26 rfl (VP.le_refl _)) ?_
  refine WP.nil ?_
  refine QE.next ?_
  refine CW.ret ?_
  exact QE.done (.inl rfl) rfl (ResOk.cl rfl (mem_at 1 rfl) ty26 (is_eq (y := (A, (B + (A * k + A * k)), ((A * k + B) * k + C))) (by rfl)) ResOk.nil) (OImp.sub (List.nil_sublist _)) ⟨rfl, rfl⟩

set_option maxRecDepth 20000 in
set_option maxHeartbeats 4000000 in
theorem c_quad_gauss (A0 B0 C0 : Int) (n : Nat) (hn : n ≤ 100000000) (ha : Sz n A0) (hb : Sz n B0) (hc : Sz n C0) (hp : posF A0 B0 C0) : Fn Try.prog 15 [(kPair kZ (kPair kZ kZ)).is (A0, B0, C0)] (VP.tup [(kPair kC (kPair kC kC)).is ((gs A0 B0 C0 1 0 0 1).1), (kArr 4 kC).is ((gs A0 B0 C0 1 0 0 1).2)]) := by
  refine Con.enter Try.func15 rfl rfl fun m w => ?_
  refine CW.seq ?_
  refine CW.region ?_
  refine WP.bx .n rfl fun b1 => ?_
  refine WP.al .n z26_pr_C_pr_C_C__ fun b2 => ?_
  refine WP.al .n z28_ar4_C fun b3 => ?_
  refine WP.nil ?_
  refine QE.next ?_
  refine CW.seq ?_
  refine CW.draw (Γ := [.fr (VP.ex (.pointer (some ⟨b1, 0, none⟩))), .fr (kZ.is A0), .fr (kC.is A0), .fr (VP.ex (.pointer (some ⟨b1, 2, none⟩))), .fr (kZ.is B0), .fr (kC.is B0), .fr (VP.ex (.pointer (some ⟨b1, 4, none⟩))), .fr (kZ.is C0), .fr (kC.is C0), .fr ((kPair kC (kPair kC kC)).is (A0, (B0, C0)))]) (lates := [false, false, false, false, false, false, false, false, false, false]) (by kernel_rfl) (Chk.of rfl (by kernel_rfl) rfl) (fun _ _ _ _ _ h => h) (fun q_ x_ h_ => ?_) (fun σ1 => ?_)
  · match q_, h_ with
    | 0, h_ => cases h_; exact Ob.f rfl .n fun N => (O.fa rfl fld26_0 rfl)
    | 1, h_ => cases h_; exact Ob.f rfl .n fun N => (O.ld (p := kZ.is A0) rfl (mem_app N (mem_at 2 rfl)) (Lens.fst (Lens.id _)) ty24 rfl)
    | 2, h_ => cases h_; exact Ob.f rfl .n fun N => (O.fn fn30 (evs.c rfl evs.nil) (c_zint_Form A0))
    | 3, h_ => cases h_; exact Ob.f rfl .n fun N => (O.fa rfl fld26_1 rfl)
    | 4, h_ => cases h_; exact Ob.f rfl .n fun N => (O.ld (p := kZ.is B0) rfl (mem_app N (mem_at 2 rfl)) (Lens.snd (Lens.fst (Lens.id _))) ty24 rfl)
    | 5, h_ => cases h_; exact Ob.f rfl .n fun N => (O.fn fn30 (evs.c rfl evs.nil) (c_zint_Form B0))
    | 6, h_ => cases h_; exact Ob.f rfl .n fun N => (O.fa rfl fld26_2 rfl)
    | 7, h_ => cases h_; exact Ob.f rfl .n fun N => (O.ld (p := kZ.is C0) rfl (mem_app N (mem_at 2 rfl)) (Lens.snd (Lens.snd (Lens.id _))) ty24 rfl)
    | 8, h_ => cases h_; exact Ob.f rfl .n fun N => (O.fn fn30 (evs.c rfl evs.nil) (c_zint_Form C0))
    | 9, h_ => cases h_; exact Ob.f rfl .n fun N => (O.bld lit26_pr_C_pr_C_C__ rfl (evp.c rfl (evp.c rfl (evp.c rfl evp.n))) (.cons rfl (Lens.fst (Lens.id _)) (.cons rfl (Lens.snd (Lens.fst (Lens.id _))) (.cons rfl (Lens.snd (Lens.snd (Lens.id _))) (.nil _)))))
    | n_ + 10, h_ => simp at h_
  refine WP.t .n (O.stW (l := (kPair kC (kPair kC kC))) (u := (A0, (B0, C0))) 2 rfl rfl rfl ty26 rfl (VP.le_refl _)) ?_
  refine WP.nil ?_
  refine QE.next ?_
  refine CW.seq ?_
  refine CW.region ?_
  refine WP.s .n (O.fn fn11 (evs.l rfl (i64_int (by omega)) evs.nil) (c_zint_Of 1)) ?_
  refine WP.s .n (O.bld lit24_C rfl evp.n (.nil _)) ?_
  refine WP.s .n (O.bld lit24_C rfl evp.n (.nil _)) ?_
  refine WP.s .n (O.fn fn11 (evs.l rfl (i64_int (by omega)) evs.nil) (c_zint_Of 1)) ?_
  refine WP.s .n (O.bld lit28_ar4_C rfl (evp.c rfl (evp.c rfl (evp.c rfl (evp.c rfl evp.n)))) (.cons rfl (Lens.arr 0 0 (by decide) (Lens.id _)) (.cons rfl (Lens.arr 0 1 (by decide) (Lens.id _)) (.cons rfl (Lens.arr 0 2 (by decide) (Lens.id _)) (.cons rfl (Lens.arr 0 3 (by decide) (Lens.id _)) (.nil _)))))) ?_
  refine WP.al .n z28_ar4_C fun b4 => ?_
  refine WP.t .n (O.stW (l := (kArr 4 kC)) (u := [1, 0, 0, 1]) 0 rfl rfl rfl ty28 rfl (VP.le_refl _)) ?_
  refine WP.nil ?_
  refine QE.next ?_
  refine CW.block ?_
  refine CW.loop7 (fun (A : Int) (B : Int) (C : Int) (x : Int) (y : Int) (z : Int) (t : Int) => GsR n A0 B0 C0 A B C x y z t) (fun (A : Int) (B : Int) (C : Int) (x : Int) (y : Int) (z : Int) (t : Int) => [(1, VP.ex (.pointer (some ⟨b1, 0, none⟩))), (2, VP.ex (.pointer (some ⟨b2, 0, none⟩))), (3, VP.ex (.pointer (some ⟨b3, 0, none⟩))), (4, VP.ex (.pointer (some ⟨b4, 0, none⟩)))]) (fun (A : Int) (B : Int) (C : Int) (x : Int) (y : Int) (z : Int) (t : Int) => [OB.box b4 28 (kArr 4 kC) [x, y, z, t], OB.box b3 28 (kArr 4 kC) (List.replicate 4 0), OB.box b2 26 (kPair kC (kPair kC kC)) (0, 0, 0), OB.box b1 26 (kPair kC (kPair kC kC)) (A, B, C)]) (fun (A : Int) (B : Int) (C : Int) (x : Int) (y : Int) (z : Int) (t : Int) => 2 * A.toNat + gFlag A B) A0 B0 C0 1 0 0 1 (gsR_0 hp ha hb hc) (Imp.cons rfl (Imp.cons rfl (Imp.cons rfl (Imp.cons rfl Imp.nil)))) (OImp.os (OS.keep (OS.keep (OS.keepLe (OB.box_eq (by rfl)) (OS.keepLe (OB.box_eq (by rfl)) OS.nil))))) ?_
  intro A B C x y z t hG
  have hS := gsR_S (by omega) hp ha hc hG
  refine CW.block ?_
  refine CW.seq ?_
  refine CW.draw (Γ := [.fr (VP.ex (.pointer (some ⟨b1, 0, none⟩))), .fr (kC.is A), .fr (VP.ex (.pointer (some ⟨b1, 2, none⟩))), .fr (kC.is B), .fr (kC.is (A - B)), .fr (VP.ex (.pointer (some ⟨b1, 0, none⟩))), .fr (kC.is A), .fr (VP.ex (.pointer (some ⟨b1, 0, none⟩))), .fr (kC.is A), .fr (kC.is (A + A)), .fr (VP.tup [kC.is ((A - B).fdiv (A + A)), kC.is (if (A + A) = 0 then 0 else (A - B).fmod (A + A)), (kInt .i64).is (if (A + A) = 0 then 11 else 0)]), .fr (VP.tup [kC.is ((A - B).fdiv (A + A)), kC.is (if (A + A) = 0 then 0 else (A - B).fmod (A + A)), (kInt .i64).is (if (A + A) = 0 then 11 else 0)]), .fr (kC.is ((A - B).fdiv (A + A))), .lt (kC.is (if (A + A) = 0 then 0 else (A - B).fmod (A + A))), .lt ((kInt .i64).is (if (A + A) = 0 then 11 else 0)), .al (fun b => OB.box b 24 kC 0), .al (fun b => OB.box b 24 kC 0)]) (lates := [false, false, false, false, false, false, false, false, false, false, false, false, false, true, true, false, false]) (by kernel_rfl) (Chk.of rfl (by kernel_rfl) rfl) (fun _ _ _ _ _ h => h) (fun q_ x_ h_ => ?_) (fun σ2 => ?_)
  · match q_, h_ with
    | 0, h_ => cases h_; exact Ob.f rfl .n fun N => (O.fa rfl fld26_0 rfl)
    | 1, h_ => cases h_; exact Ob.f rfl .n fun N => (O.ld (p := kC.is A) rfl (mem_app N (mem_at 3 rfl)) (Lens.fst (Lens.id _)) ty24 rfl)
    | 2, h_ => cases h_; exact Ob.f rfl .n fun N => (O.fa rfl fld26_1 rfl)
    | 3, h_ => cases h_; exact Ob.f rfl .n fun N => (O.ld (p := kC.is B) rfl (mem_app N (mem_at 3 rfl)) (Lens.snd (Lens.fst (Lens.id _))) ty24 rfl)
    | 4, h_ => cases h_; exact Ob.f rfl .n fun N => (O.fn fn19 (evs.l rfl (kC_Z hS.a) (evs.l rfl (kC_Z hS.b) evs.nil)) (c_zint_Sub A B))
    | 5, h_ => cases h_; exact Ob.f rfl .n fun N => (O.fa rfl fld26_0 rfl)
    | 6, h_ => cases h_; exact Ob.f rfl .n fun N => (O.ld (p := kC.is A) rfl (mem_app N (mem_at 3 rfl)) (Lens.fst (Lens.id _)) ty24 rfl)
    | 7, h_ => cases h_; exact Ob.f rfl .n fun N => (O.fa rfl fld26_0 rfl)
    | 8, h_ => cases h_; exact Ob.f rfl .n fun N => (O.ld (p := kC.is A) rfl (mem_app N (mem_at 3 rfl)) (Lens.fst (Lens.id _)) ty24 rfl)
    | 9, h_ => cases h_; exact Ob.f rfl .n fun N => (O.fn fn32 (evs.l rfl (kC_Z hS.a) (evs.l rfl (kC_Z hS.a) evs.nil)) (c_zint_Add A A))
    | 10, h_ => cases h_; exact Ob.f rfl .n fun N => (O.fn fn31 (evs.l rfl (kC_Z hS.ab) (evs.l rfl (kC_Z hS.aa) evs.nil)) (c_zint_Floor (A - B) (A + A)))
    | 11, h_ => cases h_; exact Ob.f rfl .n fun N => (O.mv rfl)
    | 12, h_ => cases h_; exact Ob.f rfl .n fun N => (O.ext rfl rfl)
    | 13, h_ => cases h_; exact Ob.l rfl .n (OV.ext rfl rfl)
    | 14, h_ => cases h_; exact Ob.l rfl .n (OV.ext rfl rfl)
    | 15, h_ => cases h_; exact Ob.a rfl z24_C
    | 16, h_ => cases h_; exact Ob.a rfl z24_C
    | n_ + 17, h_ => simp at h_
  refine WP.t .n (O.stW (l := kC) (u := (A - B).fdiv (A + A)) 0 rfl rfl rfl ty24 rfl (VP.le_refl _)) ?_
  refine WP.t .n (O.stW (l := kC) (u := if (A + A) = 0 then 0 else (A - B).fmod (A + A)) 1 rfl rfl rfl ty24 rfl (VP.le_refl _)) ?_
  refine WP.s .n (O.asg rfl) ?_
  refine WP.nil ?_
  refine QE.next ?_
  refine CW.seq ?_
  refine ST.obtold 0 rfl (OB.box_eq (y := (kF A B)) rfl) ?_
  refine CW.region ?_
  refine WP.s .n (O.ld (p := (kPair kC (kPair kC kC)).is (A, B, C)) rfl (mem_at 5 rfl) (Lens.id _) ty26 rfl) ?_
  refine WP.s .n (O.ld rfl (mem_at 0 rfl) (Lens.id _) ty24 rfl) ?_
  refine WP.s .n (O.fn fn33 (evs.c rfl (evs.l rfl (kC_Z hS.k) evs.nil)) (c_quad_shift A B C (kF A B) hS.sh)) ?_
  refine WP.t .n (O.stW (l := (kPair kC (kPair kC kC))) (u := (A, (B + (A * (kF A B) + A * (kF A B))), ((A * (kF A B) + B) * (kF A B) + C))) 5 rfl rfl rfl ty26 rfl (VP.le_refl _)) ?_
  refine WP.nil ?_
  refine QE.next ?_
  refine CW.seq ?_
  refine ST.obtold 5 rfl (OB.box_eq (y := (A, (sB A B), (sC A B C))) rfl) ?_
  refine CW.draw (Γ := [.fr (VP.ex (.pointer (some ⟨b4, 2, none⟩))), .fr (kC.is y), .fr (VP.ex (.pointer (some ⟨b4, 0, none⟩))), .fr (kC.is x), .fr (kC.is (kF A B)), .fr (kC.is (x * (kF A B))), .fr (kC.is (y + (x * (kF A B)))), .fr (VP.ex (.pointer (some ⟨b4, 2, none⟩)))]) (lates := [false, false, false, false, false, false, false, false]) (by kernel_rfl) (Chk.of rfl (by kernel_rfl) rfl) (fun _ _ _ _ _ h => h) (fun q_ x_ h_ => ?_) (fun σ3 => ?_)
  · match q_, h_ with
    | 0, h_ => cases h_; exact Ob.f rfl .n fun N => (O.ixA (o' := 2) 1 rfl rfl Try.underlying28 ty24 rfl (by decide) (by rfl))
    | 1, h_ => cases h_; exact Ob.f rfl .n fun N => (O.ld (p := kC.is y) rfl (mem_app N (mem_at 2 rfl)) (Lens.arr 0 1 (by decide) (Lens.id _)) ty24 rfl)
    | 2, h_ => cases h_; exact Ob.f rfl .n fun N => (O.ixA (o' := 0) 0 rfl rfl Try.underlying28 ty24 rfl (by decide) (by rfl))
    | 3, h_ => cases h_; exact Ob.f rfl .n fun N => (O.ld (p := kC.is x) rfl (mem_app N (mem_at 2 rfl)) (Lens.arr 0 0 (by decide) (Lens.id _)) ty24 rfl)
    | 4, h_ => cases h_; exact Ob.f rfl .n fun N => (O.ld rfl (mem_app N (mem_at 0 rfl)) (Lens.id _) ty24 rfl)
    | 5, h_ => cases h_; exact Ob.f rfl .n fun N => (O.fn fn20 (evs.l rfl (kC_Z hS.fx) (evs.l rfl (kC_Z hS.k) evs.nil)) (c_zint_Mul x (kF A B)))
    | 6, h_ => cases h_; exact Ob.f rfl .n fun N => (O.fn fn32 (evs.l rfl (kC_Z hS.fy) (evs.l rfl (kC_Z hS.xk) evs.nil)) (c_zint_Add y (x * (kF A B))))
    | 7, h_ => cases h_; exact Ob.f rfl .n fun N => (O.ixA (o' := 2) 1 rfl rfl Try.underlying28 ty24 rfl (by decide) (by rfl))
    | n_ + 8, h_ => simp at h_
  refine WP.t .n (O.st 2 rfl rfl (Lens.arr 0 1 (by decide) (Lens.id _)) ty24 rfl (VP.le_refl _)) ?_
  refine WP.nil ?_
  refine QE.next ?_
  refine CW.seq ?_
  refine CW.draw (Γ := [.fr (VP.ex (.pointer (some ⟨b4, 6, none⟩))), .fr (kC.is t), .fr (VP.ex (.pointer (some ⟨b4, 4, none⟩))), .fr (kC.is z), .fr (kC.is (kF A B)), .fr (kC.is (z * (kF A B))), .fr (kC.is (t + (z * (kF A B)))), .fr (VP.ex (.pointer (some ⟨b4, 6, none⟩)))]) (lates := [false, false, false, false, false, false, false, false]) (by kernel_rfl) (Chk.of rfl (by kernel_rfl) rfl) (fun _ _ _ _ _ h => h) (fun q_ x_ h_ => ?_) (fun σ4 => ?_)
  · match q_, h_ with
    | 0, h_ => cases h_; exact Ob.f rfl .n fun N => (O.ixA (o' := 6) 3 rfl rfl Try.underlying28 ty24 rfl (by decide) (by rfl))
    | 1, h_ => cases h_; exact Ob.f rfl .n fun N => (O.ld (p := kC.is t) rfl (mem_app N (mem_at 2 rfl)) (Lens.arr 0 3 (by decide) (Lens.id _)) ty24 rfl)
    | 2, h_ => cases h_; exact Ob.f rfl .n fun N => (O.ixA (o' := 4) 2 rfl rfl Try.underlying28 ty24 rfl (by decide) (by rfl))
    | 3, h_ => cases h_; exact Ob.f rfl .n fun N => (O.ld (p := kC.is z) rfl (mem_app N (mem_at 2 rfl)) (Lens.arr 0 2 (by decide) (Lens.id _)) ty24 rfl)
    | 4, h_ => cases h_; exact Ob.f rfl .n fun N => (O.ld rfl (mem_app N (mem_at 0 rfl)) (Lens.id _) ty24 rfl)
    | 5, h_ => cases h_; exact Ob.f rfl .n fun N => (O.fn fn20 (evs.l rfl (kC_Z hS.fz) (evs.l rfl (kC_Z hS.k) evs.nil)) (c_zint_Mul z (kF A B)))
    | 6, h_ => cases h_; exact Ob.f rfl .n fun N => (O.fn fn32 (evs.l rfl (kC_Z hS.ft) (evs.l rfl (kC_Z hS.zk) evs.nil)) (c_zint_Add t (z * (kF A B))))
    | 7, h_ => cases h_; exact Ob.f rfl .n fun N => (O.ixA (o' := 6) 3 rfl rfl Try.underlying28 ty24 rfl (by decide) (by rfl))
    | n_ + 8, h_ => simp at h_
  refine WP.t .n (O.st 2 rfl rfl (Lens.arr 0 3 (by decide) (Lens.id _)) ty24 rfl (VP.le_refl _)) ?_
  refine WP.nil ?_
  refine QE.next ?_
  refine CW.seq ?_
  refine CW.region ?_
  refine WP.s .n (O.fa rfl fld26_0 rfl) ?_
  refine WP.s .n (O.ld (p := kC.is A) rfl (mem_at 5 rfl) (Lens.fst (Lens.id _)) ty24 rfl) ?_
  refine WP.s .n (O.fa rfl fld26_2 rfl) ?_
  refine WP.s .n (O.ld (p := kC.is (sC A B C)) rfl (mem_at 5 rfl) (Lens.snd (Lens.snd (Lens.id _))) ty24 rfl) ?_
  refine WP.s .n (O.fn fn16 (evs.l rfl (kC_Z hS.a) (evs.l rfl (kC_Z hS.sc) evs.nil)) (c_zint_Compare A (sC A B C))) ?_
  refine WP.s .n (O.asg rfl) ?_
  refine WP.nil ?_
  refine QE.next ?_
  refine CW.seq ?_
  refine CW.seq ?_
  refine CW.region ?_
  refine WP.s .n (O.mv rfl) ?_
  refine WP.s .n (O.lt rfl rfl) ?_
  refine WP.s .n (O.mv rfl) ?_
  refine WP.splitD 65 rfl (fun h_t65 => ?_) (fun h_t65 => ?_)
  · refine WP.ku (b := true) rfl rfl ?_
    refine WP.ku (b := true) rfl rfl ?_
    refine WP.ku (b := true) rfl rfl ?_
    refine WP.kk rfl rfl ?_
    refine WP.kk rfl rfl ?_
    refine WP.kk rfl rfl ?_
    refine WP.kk rfl rfl ?_
    refine WP.ku (b := true) rfl rfl ?_
    refine WP.s .n (O.pickT rfl rfl) ?_
    refine WP.nil ?_
    refine QE.next ?_
    refine CW.condT rfl ?_
    refine CW.seq ?_
    have hE := gsR_end hG (red_t h_t65)
    refine CW.join [(1, VP.ex (.pointer (some ⟨b1, 0, none⟩))), (2, VP.ex (.pointer (some ⟨b2, 0, none⟩))), (3, VP.ex (.pointer (some ⟨b3, 0, none⟩))), (4, VP.ex (.pointer (some ⟨b4, 0, none⟩))), (5, VP.ex (.pointer (some ⟨(σ2 15), 0, none⟩))), (6, VP.ex (.pointer (some ⟨(σ2 16), 0, none⟩))), (7, (kInt .i64).is (if (A + A) = 0 then 11 else 0)), (8, (kInt .i64).is ((A - (sC A B C)).sign)), (24, VP.tup [kC.is ((A - B).fdiv (A + A)), kC.is (if (A + A) = 0 then 0 else (A - B).fmod (A + A)), (kInt .i64).is (if (A + A) = 0 then 11 else 0)]), (25, VP.ex (.pointer (some ⟨b1, 0, none⟩))), (26, kC.is A), (27, VP.ex (.pointer (some ⟨b1, 2, none⟩))), (28, kC.is B), (29, kC.is (A - B)), (30, VP.ex (.pointer (some ⟨b1, 0, none⟩))), (31, kC.is A), (32, VP.ex (.pointer (some ⟨b1, 0, none⟩))), (33, kC.is A), (34, kC.is (A + A)), (35, VP.tup [kC.is ((A - B).fdiv (A + A)), kC.is (if (A + A) = 0 then 0 else (A - B).fmod (A + A)), (kInt .i64).is (if (A + A) = 0 then 11 else 0)]), (36, kC.is ((A - B).fdiv (A + A))), (37, kC.is (if (A + A) = 0 then 0 else (A - B).fmod (A + A))), (38, (kInt .i64).is (if (A + A) = 0 then 11 else 0)), (39, (kPair kC (kPair kC kC)).is (A, B, C)), (40, kC.is (kF A B)), (41, (kPair kC (kPair kC kC)).is (A, (B + (A * (kF A B) + A * (kF A B))), ((A * (kF A B) + B) * (kF A B) + C))), (42, VP.ex (.pointer (some ⟨b4, 2, none⟩))), (43, kC.is y), (44, VP.ex (.pointer (some ⟨b4, 0, none⟩))), (45, kC.is x), (46, kC.is (kF A B)), (47, kC.is (x * (kF A B))), (48, kC.is (y + (x * (kF A B)))), (49, VP.ex (.pointer (some ⟨b4, 2, none⟩))), (50, VP.ex (.pointer (some ⟨b4, 6, none⟩))), (51, kC.is t), (52, VP.ex (.pointer (some ⟨b4, 4, none⟩))), (53, kC.is z), (54, kC.is (kF A B)), (55, kC.is (z * (kF A B))), (56, kC.is (t + (z * (kF A B)))), (57, VP.ex (.pointer (some ⟨b4, 6, none⟩))), (58, VP.ex (.pointer (some ⟨b1, 0, none⟩))), (59, kC.is A), (60, VP.ex (.pointer (some ⟨b1, 4, none⟩))), (61, kC.is (sC A B C)), (62, (kInt .i64).is ((A - (sC A B C)).sign)), (63, (kInt .i64).is ((A - (sC A B C)).sign)), (64, kBool.is (decide (((A - (sC A B C)).sign) < 0))), (65, kBool.is true), (66, VP.ex undef), (67, VP.ex undef), (68, VP.ex undef), (69, VP.ex undef), (70, VP.ex undef), (71, VP.ex undef), (72, VP.ex undef), (73, VP.ex undef), (74, kBool.is true), (75, (kPair kC (kPair kC kC)).is (A, (sB A B), (sC A B C))), (76, (kArr 4 kC).is [x, y + (x * (kF A B)), z, t + (z * (kF A B))])] [OB.box (σ2 15) 24 kC (kF A B), OB.box (σ2 16) 24 kC (if (A + A) = 0 then 0 else (A - B).fmod (A + A)), OB.box b4 28 (kArr 4 kC) [x, y + (x * (kF A B)), z, t + (z * (kF A B))], OB.box b3 28 (kArr 4 kC) [x, y + (x * (kF A B)), z, t + (z * (kF A B))], OB.box b2 26 (kPair kC (kPair kC kC)) (A, (sB A B), (sC A B C)), OB.box b1 26 (kPair kC (kPair kC kC)) (A, (sB A B), (sC A B C))] ?_ ?_
    · refine CW.any (by kernel_rfl) ?_
      refine DA.go 0 [1] (by kernel_rfl) ⟨?_, ⟨?_, trivial⟩⟩
      · refine DO.w rfl ?_
        refine WP.s .n (O.ld (p := (kPair kC (kPair kC kC)).is (A, (sB A B), (sC A B C))) rfl (mem_at 5 rfl) (Lens.id _) ty26 rfl) ?_
        refine WP.nil ?_
        refine DO.nx ?_
        refine DA.go 1 [2] (by kernel_rfl) ⟨?_, ⟨?_, trivial⟩⟩
        · refine DO.w rfl ?_
          refine WP.s .n (O.ld (p := (kArr 4 kC).is [x, y + (x * (kF A B)), z, t + (z * (kF A B))]) rfl (mem_at 2 rfl) (Lens.id _) ty28 rfl) ?_
          refine WP.nil ?_
          refine DO.nx ?_
          refine DA.go 2 [] (by kernel_rfl) ⟨?_, trivial⟩
          refine DO.w rfl ?_
          refine WP.t .n (O.stW (l := (kPair kC (kPair kC kC))) (u := (A, (sB A B), (sC A B C))) 4 rfl rfl rfl ty26 rfl (VP.le_refl _)) ?_
          refine WP.nil ?_
          refine DO.nx ?_
          refine DA.go 3 [] (by kernel_rfl) ⟨?_, trivial⟩
          refine DO.w rfl ?_
          refine WP.t .n (O.stW (l := (kArr 4 kC)) (u := [x, y + (x * (kF A B)), z, t + (z * (kF A B))]) 3 rfl rfl rfl ty28 rfl (VP.le_refl _)) ?_
          refine WP.nil ?_
          refine DO.nx ?_
          refine DA.nil (by kernel_rfl) ?_
          exact QE.join (Imp.cons rfl (Imp.cons rfl (Imp.cons rfl (Imp.cons rfl (Imp.cons rfl (Imp.cons rfl (Imp.cons rfl (Imp.cons rfl (Imp.cons rfl (Imp.cons rfl (Imp.cons rfl (Imp.cons rfl (Imp.cons rfl (Imp.cons rfl (Imp.cons rfl (Imp.cons rfl (Imp.cons rfl (Imp.cons rfl (Imp.cons rfl (Imp.cons rfl (Imp.cons rfl (Imp.cons rfl (Imp.cons rfl (Imp.cons rfl (Imp.cons rfl (Imp.cons rfl (Imp.cons rfl (Imp.cons rfl (Imp.cons rfl (Imp.cons rfl (Imp.cons rfl (Imp.cons rfl (Imp.cons rfl (Imp.cons rfl (Imp.cons rfl (Imp.cons rfl (Imp.cons rfl (Imp.cons rfl (Imp.cons rfl (Imp.cons rfl (Imp.cons rfl (Imp.cons rfl (Imp.cons rfl (Imp.cons rfl (Imp.cons rfl (Imp.cons rfl (Imp.cons rfl (Imp.cons rfl (Imp.cons rfl (Imp.cons rfl (Imp.cons rfl (Imp.cons rfl (Imp.cons rfl (Imp.cons rfl (Imp.cons rfl (Imp.cons rfl (Imp.cons rfl (Imp.cons rfl (Imp.cons rfl (Imp.cons rfl (Imp.cons rfl Imp.nil))))))))))))))))))))))))))))))))))))))))))))))))))))))))))))) (OImp.refl _)
        · refine DO.w rfl ?_
          refine WP.t .n (O.stW (l := (kPair kC (kPair kC kC))) (u := (A, (sB A B), (sC A B C))) 4 rfl rfl rfl ty26 rfl (VP.le_refl _)) ?_
          refine WP.nil ?_
          refine DO.nx ?_
          refine DA.go 1 [] (by kernel_rfl) ⟨?_, trivial⟩
          refine DO.w rfl ?_
          refine WP.s .n (O.ld (p := (kArr 4 kC).is [x, y + (x * (kF A B)), z, t + (z * (kF A B))]) rfl (mem_at 2 rfl) (Lens.id _) ty28 rfl) ?_
          refine WP.nil ?_
          refine DO.nx ?_
          refine DA.go 3 [] (by kernel_rfl) ⟨?_, trivial⟩
          refine DO.w rfl ?_
          refine WP.t .n (O.stW (l := (kArr 4 kC)) (u := [x, y + (x * (kF A B)), z, t + (z * (kF A B))]) 3 rfl rfl rfl ty28 rfl (VP.le_refl _)) ?_
          refine WP.nil ?_
          refine DO.nx ?_
          refine DA.nil (by kernel_rfl) ?_
          exact QE.join (Imp.cons rfl (Imp.cons rfl (Imp.cons rfl (Imp.cons rfl (Imp.cons rfl (Imp.cons rfl (Imp.cons rfl (Imp.cons rfl (Imp.cons rfl (Imp.cons rfl (Imp.cons rfl (Imp.cons rfl (Imp.cons rfl (Imp.cons rfl (Imp.cons rfl (Imp.cons rfl (Imp.cons rfl (Imp.cons rfl (Imp.cons rfl (Imp.cons rfl (Imp.cons rfl (Imp.cons rfl (Imp.cons rfl (Imp.cons rfl (Imp.cons rfl (Imp.cons rfl (Imp.cons rfl (Imp.cons rfl (Imp.cons rfl (Imp.cons rfl (Imp.cons rfl (Imp.cons rfl (Imp.cons rfl (Imp.cons rfl (Imp.cons rfl (Imp.cons rfl (Imp.cons rfl (Imp.cons rfl (Imp.cons rfl (Imp.cons rfl (Imp.cons rfl (Imp.cons rfl (Imp.cons rfl (Imp.cons rfl (Imp.cons rfl (Imp.cons rfl (Imp.cons rfl (Imp.cons rfl (Imp.cons rfl (Imp.cons rfl (Imp.cons rfl (Imp.cons rfl (Imp.cons rfl (Imp.cons rfl (Imp.cons rfl (Imp.cons rfl (Imp.cons rfl (Imp.cons rfl (Imp.cons rfl (Imp.cons rfl (Imp.cons rfl Imp.nil))))))))))))))))))))))))))))))))))))))))))))))))))))))))))))) (OImp.refl _)
      · refine DO.w rfl ?_
        refine WP.s .n (O.ld (p := (kArr 4 kC).is [x, y + (x * (kF A B)), z, t + (z * (kF A B))]) rfl (mem_at 2 rfl) (Lens.id _) ty28 rfl) ?_
        refine WP.nil ?_
        refine DO.nx ?_
        refine DA.go 0 [] (by kernel_rfl) ⟨?_, trivial⟩
        refine DO.w rfl ?_
        refine WP.s .n (O.ld (p := (kPair kC (kPair kC kC)).is (A, (sB A B), (sC A B C))) rfl (mem_at 5 rfl) (Lens.id _) ty26 rfl) ?_
        refine WP.nil ?_
        refine DO.nx ?_
        refine DA.go 2 [] (by kernel_rfl) ⟨?_, trivial⟩
        refine DO.w rfl ?_
        refine WP.t .n (O.stW (l := (kPair kC (kPair kC kC))) (u := (A, (sB A B), (sC A B C))) 4 rfl rfl rfl ty26 rfl (VP.le_refl _)) ?_
        refine WP.nil ?_
        refine DO.nx ?_
        refine DA.go 3 [] (by kernel_rfl) ⟨?_, trivial⟩
        refine DO.w rfl ?_
        refine WP.t .n (O.stW (l := (kArr 4 kC)) (u := [x, y + (x * (kF A B)), z, t + (z * (kF A B))]) 3 rfl rfl rfl ty28 rfl (VP.le_refl _)) ?_
        refine WP.nil ?_
        refine DO.nx ?_
        refine DA.nil (by kernel_rfl) ?_
        exact QE.join (Imp.cons rfl (Imp.cons rfl (Imp.cons rfl (Imp.cons rfl (Imp.cons rfl (Imp.cons rfl (Imp.cons rfl (Imp.cons rfl (Imp.cons rfl (Imp.cons rfl (Imp.cons rfl (Imp.cons rfl (Imp.cons rfl (Imp.cons rfl (Imp.cons rfl (Imp.cons rfl (Imp.cons rfl (Imp.cons rfl (Imp.cons rfl (Imp.cons rfl (Imp.cons rfl (Imp.cons rfl (Imp.cons rfl (Imp.cons rfl (Imp.cons rfl (Imp.cons rfl (Imp.cons rfl (Imp.cons rfl (Imp.cons rfl (Imp.cons rfl (Imp.cons rfl (Imp.cons rfl (Imp.cons rfl (Imp.cons rfl (Imp.cons rfl (Imp.cons rfl (Imp.cons rfl (Imp.cons rfl (Imp.cons rfl (Imp.cons rfl (Imp.cons rfl (Imp.cons rfl (Imp.cons rfl (Imp.cons rfl (Imp.cons rfl (Imp.cons rfl (Imp.cons rfl (Imp.cons rfl (Imp.cons rfl (Imp.cons rfl (Imp.cons rfl (Imp.cons rfl (Imp.cons rfl (Imp.cons rfl (Imp.cons rfl (Imp.cons rfl (Imp.cons rfl (Imp.cons rfl (Imp.cons rfl (Imp.cons rfl (Imp.cons rfl Imp.nil))))))))))))))))))))))))))))))))))))))))))))))))))))))))))))) (OImp.refl _)
    refine QE.next ?_
    refine CW.ret ?_
    refine QE.thenR ?_
    refine QE.blkR ?_
    refine QE.thenR ?_
    refine QE.blkR ?_
    refine ST.obtold 4 rfl (OB.box_eq (y := ((gs A0 B0 C0 1 0 0 1).1)) (congrArg Prod.fst hE)) ?_
    refine ST.obtold 3 rfl (OB.box_eq (y := ((gs A0 B0 C0 1 0 0 1).2)) (congrArg Prod.snd hE)) ?_
    exact QE.done (.inl rfl) rfl (ResOk.c rfl (mem_at 4 rfl) ty26 (ResOk.c rfl (mem_at 3 rfl) ty28 ResOk.nil)) (OImp.sub (List.nil_sublist _)) ⟨rfl, rfl⟩
  · refine WP.s (.g rfl rfl) (O.mv rfl) ?_
    refine WP.s (.g rfl rfl) (O.eq rfl rfl) ?_
    refine WP.s (.g rfl rfl) (O.mv rfl) ?_
    refine WP.splitD 68 rfl (fun h_t68 => ?_) (fun h_t68 => ?_)
    · refine WP.s (.g rfl rfl) (O.fa rfl fld26_1 rfl) ?_
      refine WP.s (.g rfl rfl) (O.ld (p := kC.is (sB A B)) rfl (mem_at 5 rfl) (Lens.snd (Lens.fst (Lens.id _))) ty24 rfl) ?_
      refine WP.s (.g rfl rfl) (O.fn fn18 (evs.l rfl (kC_Z hS.sb) evs.nil) (c_zint_Sign (sB A B))) ?_
      refine WP.s (.g rfl rfl) (O.ge rfl rfl) ?_
      refine WP.s (.g rfl rfl) (O.pickT rfl rfl) ?_
      refine WP.s .n (O.pickF rfl rfl) ?_
      refine WP.nil ?_
      refine QE.next ?_
      refine CW.condD rfl (fun h_t74 => ?_) (fun h_t74 => ?_)
      · refine CW.seq ?_
        have hE := gsR_end hG (red_e h_t68 h_t74)
        refine CW.join [(1, VP.ex (.pointer (some ⟨b1, 0, none⟩))), (2, VP.ex (.pointer (some ⟨b2, 0, none⟩))), (3, VP.ex (.pointer (some ⟨b3, 0, none⟩))), (4, VP.ex (.pointer (some ⟨b4, 0, none⟩))), (5, VP.ex (.pointer (some ⟨(σ2 15), 0, none⟩))), (6, VP.ex (.pointer (some ⟨(σ2 16), 0, none⟩))), (7, (kInt .i64).is (if (A + A) = 0 then 11 else 0)), (8, (kInt .i64).is ((A - (sC A B C)).sign)), (24, VP.tup [kC.is ((A - B).fdiv (A + A)), kC.is (if (A + A) = 0 then 0 else (A - B).fmod (A + A)), (kInt .i64).is (if (A + A) = 0 then 11 else 0)]), (25, VP.ex (.pointer (some ⟨b1, 0, none⟩))), (26, kC.is A), (27, VP.ex (.pointer (some ⟨b1, 2, none⟩))), (28, kC.is B), (29, kC.is (A - B)), (30, VP.ex (.pointer (some ⟨b1, 0, none⟩))), (31, kC.is A), (32, VP.ex (.pointer (some ⟨b1, 0, none⟩))), (33, kC.is A), (34, kC.is (A + A)), (35, VP.tup [kC.is ((A - B).fdiv (A + A)), kC.is (if (A + A) = 0 then 0 else (A - B).fmod (A + A)), (kInt .i64).is (if (A + A) = 0 then 11 else 0)]), (36, kC.is ((A - B).fdiv (A + A))), (37, kC.is (if (A + A) = 0 then 0 else (A - B).fmod (A + A))), (38, (kInt .i64).is (if (A + A) = 0 then 11 else 0)), (39, (kPair kC (kPair kC kC)).is (A, B, C)), (40, kC.is (kF A B)), (41, (kPair kC (kPair kC kC)).is (A, (B + (A * (kF A B) + A * (kF A B))), ((A * (kF A B) + B) * (kF A B) + C))), (42, VP.ex (.pointer (some ⟨b4, 2, none⟩))), (43, kC.is y), (44, VP.ex (.pointer (some ⟨b4, 0, none⟩))), (45, kC.is x), (46, kC.is (kF A B)), (47, kC.is (x * (kF A B))), (48, kC.is (y + (x * (kF A B)))), (49, VP.ex (.pointer (some ⟨b4, 2, none⟩))), (50, VP.ex (.pointer (some ⟨b4, 6, none⟩))), (51, kC.is t), (52, VP.ex (.pointer (some ⟨b4, 4, none⟩))), (53, kC.is z), (54, kC.is (kF A B)), (55, kC.is (z * (kF A B))), (56, kC.is (t + (z * (kF A B)))), (57, VP.ex (.pointer (some ⟨b4, 6, none⟩))), (58, VP.ex (.pointer (some ⟨b1, 0, none⟩))), (59, kC.is A), (60, VP.ex (.pointer (some ⟨b1, 4, none⟩))), (61, kC.is (sC A B C)), (62, (kInt .i64).is ((A - (sC A B C)).sign)), (63, (kInt .i64).is ((A - (sC A B C)).sign)), (64, kBool.is (decide (((A - (sC A B C)).sign) < 0))), (65, kBool.is false), (66, (kInt .i64).is ((A - (sC A B C)).sign)), (67, kBool.is (decide (((A - (sC A B C)).sign) = 0))), (68, kBool.is true), (69, VP.ex (.pointer (some ⟨b1, 2, none⟩))), (70, kC.is (sB A B)), (71, (kInt .i64).is ((sB A B).sign)), (72, kBool.is (decide (0 ≤ ((sB A B).sign)))), (73, kBool.is (decide (0 ≤ ((sB A B).sign)))), (74, kBool.is (decide (0 ≤ ((sB A B).sign)))), (75, (kPair kC (kPair kC kC)).is (A, (sB A B), (sC A B C))), (76, (kArr 4 kC).is [x, y + (x * (kF A B)), z, t + (z * (kF A B))])] [OB.box (σ2 15) 24 kC (kF A B), OB.box (σ2 16) 24 kC (if (A + A) = 0 then 0 else (A - B).fmod (A + A)), OB.box b4 28 (kArr 4 kC) [x, y + (x * (kF A B)), z, t + (z * (kF A B))], OB.box b3 28 (kArr 4 kC) [x, y + (x * (kF A B)), z, t + (z * (kF A B))], OB.box b2 26 (kPair kC (kPair kC kC)) (A, (sB A B), (sC A B C)), OB.box b1 26 (kPair kC (kPair kC kC)) (A, (sB A B), (sC A B C))] ?_ ?_
        · refine CW.any (by kernel_rfl) ?_
          refine DA.go 0 [1] (by kernel_rfl) ⟨?_, ⟨?_, trivial⟩⟩
          · refine DO.w rfl ?_
            refine WP.s .n (O.ld (p := (kPair kC (kPair kC kC)).is (A, (sB A B), (sC A B C))) rfl (mem_at 5 rfl) (Lens.id _) ty26 rfl) ?_
            refine WP.nil ?_
            refine DO.nx ?_
            refine DA.go 1 [2] (by kernel_rfl) ⟨?_, ⟨?_, trivial⟩⟩
            · refine DO.w rfl ?_
              refine WP.s .n (O.ld (p := (kArr 4 kC).is [x, y + (x * (kF A B)), z, t + (z * (kF A B))]) rfl (mem_at 2 rfl) (Lens.id _) ty28 rfl) ?_
              refine WP.nil ?_
              refine DO.nx ?_
              refine DA.go 2 [] (by kernel_rfl) ⟨?_, trivial⟩
              refine DO.w rfl ?_
              refine WP.t .n (O.stW (l := (kPair kC (kPair kC kC))) (u := (A, (sB A B), (sC A B C))) 4 rfl rfl rfl ty26 rfl (VP.le_refl _)) ?_
              refine WP.nil ?_
              refine DO.nx ?_
              refine DA.go 3 [] (by kernel_rfl) ⟨?_, trivial⟩
              refine DO.w rfl ?_
              refine WP.t .n (O.stW (l := (kArr 4 kC)) (u := [x, y + (x * (kF A B)), z, t + (z * (kF A B))]) 3 rfl rfl rfl ty28 rfl (VP.le_refl _)) ?_
              refine WP.nil ?_
              refine DO.nx ?_
              refine DA.nil (by kernel_rfl) ?_
              exact QE.join (Imp.cons rfl (Imp.cons rfl (Imp.cons rfl (Imp.cons rfl (Imp.cons rfl (Imp.cons rfl (Imp.cons rfl (Imp.cons rfl (Imp.cons rfl (Imp.cons rfl (Imp.cons rfl (Imp.cons rfl (Imp.cons rfl (Imp.cons rfl (Imp.cons rfl (Imp.cons rfl (Imp.cons rfl (Imp.cons rfl (Imp.cons rfl (Imp.cons rfl (Imp.cons rfl (Imp.cons rfl (Imp.cons rfl (Imp.cons rfl (Imp.cons rfl (Imp.cons rfl (Imp.cons rfl (Imp.cons rfl (Imp.cons rfl (Imp.cons rfl (Imp.cons rfl (Imp.cons rfl (Imp.cons rfl (Imp.cons rfl (Imp.cons rfl (Imp.cons rfl (Imp.cons rfl (Imp.cons rfl (Imp.cons rfl (Imp.cons rfl (Imp.cons rfl (Imp.cons rfl (Imp.cons rfl (Imp.cons rfl (Imp.cons rfl (Imp.cons rfl (Imp.cons rfl (Imp.cons rfl (Imp.cons rfl (Imp.cons rfl (Imp.cons rfl (Imp.cons rfl (Imp.cons rfl (Imp.cons rfl (Imp.cons rfl (Imp.cons rfl (Imp.cons rfl (Imp.cons rfl (Imp.cons rfl (Imp.cons rfl (Imp.cons rfl Imp.nil))))))))))))))))))))))))))))))))))))))))))))))))))))))))))))) (OImp.refl _)
            · refine DO.w rfl ?_
              refine WP.t .n (O.stW (l := (kPair kC (kPair kC kC))) (u := (A, (sB A B), (sC A B C))) 4 rfl rfl rfl ty26 rfl (VP.le_refl _)) ?_
              refine WP.nil ?_
              refine DO.nx ?_
              refine DA.go 1 [] (by kernel_rfl) ⟨?_, trivial⟩
              refine DO.w rfl ?_
              refine WP.s .n (O.ld (p := (kArr 4 kC).is [x, y + (x * (kF A B)), z, t + (z * (kF A B))]) rfl (mem_at 2 rfl) (Lens.id _) ty28 rfl) ?_
              refine WP.nil ?_
              refine DO.nx ?_
              refine DA.go 3 [] (by kernel_rfl) ⟨?_, trivial⟩
              refine DO.w rfl ?_
              refine WP.t .n (O.stW (l := (kArr 4 kC)) (u := [x, y + (x * (kF A B)), z, t + (z * (kF A B))]) 3 rfl rfl rfl ty28 rfl (VP.le_refl _)) ?_
              refine WP.nil ?_
              refine DO.nx ?_
              refine DA.nil (by kernel_rfl) ?_
              exact QE.join (Imp.cons rfl (Imp.cons rfl (Imp.cons rfl (Imp.cons rfl (Imp.cons rfl (Imp.cons rfl (Imp.cons rfl (Imp.cons rfl (Imp.cons rfl (Imp.cons rfl (Imp.cons rfl (Imp.cons rfl (Imp.cons rfl (Imp.cons rfl (Imp.cons rfl (Imp.cons rfl (Imp.cons rfl (Imp.cons rfl (Imp.cons rfl (Imp.cons rfl (Imp.cons rfl (Imp.cons rfl (Imp.cons rfl (Imp.cons rfl (Imp.cons rfl (Imp.cons rfl (Imp.cons rfl (Imp.cons rfl (Imp.cons rfl (Imp.cons rfl (Imp.cons rfl (Imp.cons rfl (Imp.cons rfl (Imp.cons rfl (Imp.cons rfl (Imp.cons rfl (Imp.cons rfl (Imp.cons rfl (Imp.cons rfl (Imp.cons rfl (Imp.cons rfl (Imp.cons rfl (Imp.cons rfl (Imp.cons rfl (Imp.cons rfl (Imp.cons rfl (Imp.cons rfl (Imp.cons rfl (Imp.cons rfl (Imp.cons rfl (Imp.cons rfl (Imp.cons rfl (Imp.cons rfl (Imp.cons rfl (Imp.cons rfl (Imp.cons rfl (Imp.cons rfl (Imp.cons rfl (Imp.cons rfl (Imp.cons rfl (Imp.cons rfl Imp.nil))))))))))))))))))))))))))))))))))))))))))))))))))))))))))))) (OImp.refl _)
          · refine DO.w rfl ?_
            refine WP.s .n (O.ld (p := (kArr 4 kC).is [x, y + (x * (kF A B)), z, t + (z * (kF A B))]) rfl (mem_at 2 rfl) (Lens.id _) ty28 rfl) ?_
            refine WP.nil ?_
            refine DO.nx ?_
            refine DA.go 0 [] (by kernel_rfl) ⟨?_, trivial⟩
            refine DO.w rfl ?_
            refine WP.s .n (O.ld (p := (kPair kC (kPair kC kC)).is (A, (sB A B), (sC A B C))) rfl (mem_at 5 rfl) (Lens.id _) ty26 rfl) ?_
            refine WP.nil ?_
            refine DO.nx ?_
            refine DA.go 2 [] (by kernel_rfl) ⟨?_, trivial⟩
            refine DO.w rfl ?_
            refine WP.t .n (O.stW (l := (kPair kC (kPair kC kC))) (u := (A, (sB A B), (sC A B C))) 4 rfl rfl rfl ty26 rfl (VP.le_refl _)) ?_
            refine WP.nil ?_
            refine DO.nx ?_
            refine DA.go 3 [] (by kernel_rfl) ⟨?_, trivial⟩
            refine DO.w rfl ?_
            refine WP.t .n (O.stW (l := (kArr 4 kC)) (u := [x, y + (x * (kF A B)), z, t + (z * (kF A B))]) 3 rfl rfl rfl ty28 rfl (VP.le_refl _)) ?_
            refine WP.nil ?_
            refine DO.nx ?_
            refine DA.nil (by kernel_rfl) ?_
            exact QE.join (Imp.cons rfl (Imp.cons rfl (Imp.cons rfl (Imp.cons rfl (Imp.cons rfl (Imp.cons rfl (Imp.cons rfl (Imp.cons rfl (Imp.cons rfl (Imp.cons rfl (Imp.cons rfl (Imp.cons rfl (Imp.cons rfl (Imp.cons rfl (Imp.cons rfl (Imp.cons rfl (Imp.cons rfl (Imp.cons rfl (Imp.cons rfl (Imp.cons rfl (Imp.cons rfl (Imp.cons rfl (Imp.cons rfl (Imp.cons rfl (Imp.cons rfl (Imp.cons rfl (Imp.cons rfl (Imp.cons rfl (Imp.cons rfl (Imp.cons rfl (Imp.cons rfl (Imp.cons rfl (Imp.cons rfl (Imp.cons rfl (Imp.cons rfl (Imp.cons rfl (Imp.cons rfl (Imp.cons rfl (Imp.cons rfl (Imp.cons rfl (Imp.cons rfl (Imp.cons rfl (Imp.cons rfl (Imp.cons rfl (Imp.cons rfl (Imp.cons rfl (Imp.cons rfl (Imp.cons rfl (Imp.cons rfl (Imp.cons rfl (Imp.cons rfl (Imp.cons rfl (Imp.cons rfl (Imp.cons rfl (Imp.cons rfl (Imp.cons rfl (Imp.cons rfl (Imp.cons rfl (Imp.cons rfl (Imp.cons rfl (Imp.cons rfl Imp.nil))))))))))))))))))))))))))))))))))))))))))))))))))))))))))))) (OImp.refl _)
        refine QE.next ?_
        refine CW.ret ?_
        refine QE.thenR ?_
        refine QE.blkR ?_
        refine QE.thenR ?_
        refine QE.blkR ?_
        refine ST.obtold 4 rfl (OB.box_eq (y := ((gs A0 B0 C0 1 0 0 1).1)) (congrArg Prod.fst hE)) ?_
        refine ST.obtold 3 rfl (OB.box_eq (y := ((gs A0 B0 C0 1 0 0 1).2)) (congrArg Prod.snd hE)) ?_
        exact QE.done (.inl rfl) rfl (ResOk.c rfl (mem_at 4 rfl) ty26 (ResOk.c rfl (mem_at 3 rfl) ty28 ResOk.nil)) (OImp.sub (List.nil_sublist _)) ⟨rfl, rfl⟩
      · refine CW.skip ?_
        refine QE.next ?_
        refine CW.seq ?_
        have hnr := nred_b h_t65 h_t74
        refine CW.draw (Γ := [.fr (VP.ex (.pointer (some ⟨b1, 4, none⟩))), .fr (kC.is (sC A B C)), .fr (VP.ex (.pointer (some ⟨b1, 2, none⟩))), .fr (kC.is (sB A B)), .fr (kC.is (-(sB A B))), .fr (VP.ex (.pointer (some ⟨b1, 0, none⟩))), .fr (kC.is A), .fr ((kPair kC (kPair kC kC)).is ((sC A B C), (-(sB A B), A)))]) (lates := [false, false, false, false, false, false, false, false]) (by kernel_rfl) (Chk.of rfl (by kernel_rfl) rfl) (fun _ _ _ _ _ h => h) (fun q_ x_ h_ => ?_) (fun σ7 => ?_)
        · match q_, h_ with
          | 0, h_ => cases h_; exact Ob.f rfl .n fun N => (O.fa rfl fld26_2 rfl)
          | 1, h_ => cases h_; exact Ob.f rfl .n fun N => (O.ld (p := kC.is (sC A B C)) rfl (mem_app N (mem_at 5 rfl)) (Lens.snd (Lens.snd (Lens.id _))) ty24 rfl)
          | 2, h_ => cases h_; exact Ob.f rfl .n fun N => (O.fa rfl fld26_1 rfl)
          | 3, h_ => cases h_; exact Ob.f rfl .n fun N => (O.ld (p := kC.is (sB A B)) rfl (mem_app N (mem_at 5 rfl)) (Lens.snd (Lens.fst (Lens.id _))) ty24 rfl)
          | 4, h_ => cases h_; exact Ob.f rfl .n fun N => (O.fn fn34 (evs.l rfl (kC_Z hS.sb) evs.nil) (c_zint_Neg (sB A B)))
          | 5, h_ => cases h_; exact Ob.f rfl .n fun N => (O.fa rfl fld26_0 rfl)
          | 6, h_ => cases h_; exact Ob.f rfl .n fun N => (O.ld (p := kC.is A) rfl (mem_app N (mem_at 5 rfl)) (Lens.fst (Lens.id _)) ty24 rfl)
          | 7, h_ => cases h_; exact Ob.f rfl .n fun N => (O.bld lit26_pr_C_pr_C_C__ rfl (evp.c rfl (evp.c rfl (evp.c rfl evp.n))) (.cons rfl (Lens.fst (Lens.id _)) (.cons rfl (Lens.snd (Lens.fst (Lens.id _))) (.cons rfl (Lens.snd (Lens.snd (Lens.id _))) (.nil _)))))
          | n_ + 8, h_ => simp at h_
        refine WP.t .n (O.stW (l := (kPair kC (kPair kC kC))) (u := ((sC A B C), (-(sB A B), A))) 5 rfl rfl rfl ty26 rfl (VP.le_refl _)) ?_
        refine WP.nil ?_
        refine QE.next ?_
        refine CW.draw (Γ := [.fr (VP.ex (.pointer (some ⟨b4, 2, none⟩))), .fr (kC.is (y + (x * (kF A B)))), .fr (VP.ex (.pointer (some ⟨b4, 0, none⟩))), .fr (kC.is x), .fr (kC.is (-x)), .fr (VP.ex (.pointer (some ⟨b4, 6, none⟩))), .fr (kC.is (t + (z * (kF A B)))), .fr (VP.ex (.pointer (some ⟨b4, 4, none⟩))), .fr (kC.is z), .fr (kC.is (-z)), .fr ((kArr 4 kC).is [y + (x * (kF A B)), -x, t + (z * (kF A B)), -z])]) (lates := [false, false, false, false, false, false, false, false, false, false, false]) (by kernel_rfl) (Chk.of rfl (by kernel_rfl) rfl) (fun _ _ _ _ _ h => h) (fun q_ x_ h_ => ?_) (fun σ8 => ?_)
        · match q_, h_ with
          | 0, h_ => cases h_; exact Ob.f rfl .n fun N => (O.ixA (o' := 2) 1 rfl rfl Try.underlying28 ty24 rfl (by decide) (by rfl))
          | 1, h_ => cases h_; exact Ob.f rfl .n fun N => (O.ld (p := kC.is (y + (x * (kF A B)))) rfl (mem_app N (mem_at 2 rfl)) (Lens.arr 0 1 (by decide) (Lens.id _)) ty24 rfl)
          | 2, h_ => cases h_; exact Ob.f rfl .n fun N => (O.ixA (o' := 0) 0 rfl rfl Try.underlying28 ty24 rfl (by decide) (by rfl))
          | 3, h_ => cases h_; exact Ob.f rfl .n fun N => (O.ld (p := kC.is x) rfl (mem_app N (mem_at 2 rfl)) (Lens.arr 0 0 (by decide) (Lens.id _)) ty24 rfl)
          | 4, h_ => cases h_; exact Ob.f rfl .n fun N => (O.fn fn34 (evs.l rfl (kC_Z hS.fx) evs.nil) (c_zint_Neg x))
          | 5, h_ => cases h_; exact Ob.f rfl .n fun N => (O.ixA (o' := 6) 3 rfl rfl Try.underlying28 ty24 rfl (by decide) (by rfl))
          | 6, h_ => cases h_; exact Ob.f rfl .n fun N => (O.ld (p := kC.is (t + (z * (kF A B)))) rfl (mem_app N (mem_at 2 rfl)) (Lens.arr 0 3 (by decide) (Lens.id _)) ty24 rfl)
          | 7, h_ => cases h_; exact Ob.f rfl .n fun N => (O.ixA (o' := 4) 2 rfl rfl Try.underlying28 ty24 rfl (by decide) (by rfl))
          | 8, h_ => cases h_; exact Ob.f rfl .n fun N => (O.ld (p := kC.is z) rfl (mem_app N (mem_at 2 rfl)) (Lens.arr 0 2 (by decide) (Lens.id _)) ty24 rfl)
          | 9, h_ => cases h_; exact Ob.f rfl .n fun N => (O.fn fn34 (evs.l rfl (kC_Z hS.fz) evs.nil) (c_zint_Neg z))
          | 10, h_ => cases h_; exact Ob.f rfl .n fun N => (O.bld lit28_ar4_C rfl (evp.c rfl (evp.c rfl (evp.c rfl (evp.c rfl evp.n)))) (.cons rfl (Lens.arr 0 0 (by decide) (Lens.id _)) (.cons rfl (Lens.arr 0 1 (by decide) (Lens.id _)) (.cons rfl (Lens.arr 0 2 (by decide) (Lens.id _)) (.cons rfl (Lens.arr 0 3 (by decide) (Lens.id _)) (.nil _))))))
          | n_ + 11, h_ => simp at h_
        refine WP.t .n (O.stW (l := (kArr 4 kC)) (u := [y + (x * (kF A B)), -x, t + (z * (kF A B)), -z]) 2 rfl rfl rfl ty28 rfl (VP.le_refl _)) ?_
        refine WP.nil ?_
        refine QE.blkN ?_
        exact QE.round7 (sC A B C) (-(sB A B)) A (y + x * kF A B) (-x) (t + z * kF A B) (-z) (by exact gs_dec' hG.p hnr) (gsR_s hG hnr) (Imp.cons rfl (Imp.cons rfl (Imp.cons rfl (Imp.cons rfl Imp.nil)))) (OImp.os (OS.skip (OS.skip (OS.keepLe (OB.box_eq (by rfl)) (OS.keep (OS.keep (OS.keepLe (OB.box_eq (by rfl)) OS.nil)))))))
    · refine WP.ku (b := false) rfl rfl ?_
      refine WP.ku (b := false) rfl rfl ?_
      refine WP.ku (b := false) rfl rfl ?_
      refine WP.ku (b := false) rfl rfl ?_
      refine WP.s (.g rfl rfl) (O.pickF rfl rfl) ?_
      refine WP.s .n (O.pickF rfl rfl) ?_
      refine WP.nil ?_
      refine QE.next ?_
      refine CW.condF rfl ?_
      refine CW.skip ?_
      refine QE.next ?_
      refine CW.seq ?_
      have hnr := nred_e (B := sB A B) h_t65 h_t68
      refine CW.draw (Γ := [.fr (VP.ex (.pointer (some ⟨b1, 4, none⟩))), .fr (kC.is (sC A B C)), .fr (VP.ex (.pointer (some ⟨b1, 2, none⟩))), .fr (kC.is (sB A B)), .fr (kC.is (-(sB A B))), .fr (VP.ex (.pointer (some ⟨b1, 0, none⟩))), .fr (kC.is A), .fr ((kPair kC (kPair kC kC)).is ((sC A B C), (-(sB A B), A)))]) (lates := [false, false, false, false, false, false, false, false]) (by kernel_rfl) (Chk.of rfl (by kernel_rfl) rfl) (fun _ _ _ _ _ h => h) (fun q_ x_ h_ => ?_) (fun σ9 => ?_)
      · match q_, h_ with
        | 0, h_ => cases h_; exact Ob.f rfl .n fun N => (O.fa rfl fld26_2 rfl)
        | 1, h_ => cases h_; exact Ob.f rfl .n fun N => (O.ld (p := kC.is (sC A B C)) rfl (mem_app N (mem_at 5 rfl)) (Lens.snd (Lens.snd (Lens.id _))) ty24 rfl)
        | 2, h_ => cases h_; exact Ob.f rfl .n fun N => (O.fa rfl fld26_1 rfl)
        | 3, h_ => cases h_; exact Ob.f rfl .n fun N => (O.ld (p := kC.is (sB A B)) rfl (mem_app N (mem_at 5 rfl)) (Lens.snd (Lens.fst (Lens.id _))) ty24 rfl)
        | 4, h_ => cases h_; exact Ob.f rfl .n fun N => (O.fn fn34 (evs.l rfl (kC_Z hS.sb) evs.nil) (c_zint_Neg (sB A B)))
        | 5, h_ => cases h_; exact Ob.f rfl .n fun N => (O.fa rfl fld26_0 rfl)
        | 6, h_ => cases h_; exact Ob.f rfl .n fun N => (O.ld (p := kC.is A) rfl (mem_app N (mem_at 5 rfl)) (Lens.fst (Lens.id _)) ty24 rfl)
        | 7, h_ => cases h_; exact Ob.f rfl .n fun N => (O.bld lit26_pr_C_pr_C_C__ rfl (evp.c rfl (evp.c rfl (evp.c rfl evp.n))) (.cons rfl (Lens.fst (Lens.id _)) (.cons rfl (Lens.snd (Lens.fst (Lens.id _))) (.cons rfl (Lens.snd (Lens.snd (Lens.id _))) (.nil _)))))
        | n_ + 8, h_ => simp at h_
      refine WP.t .n (O.stW (l := (kPair kC (kPair kC kC))) (u := ((sC A B C), (-(sB A B), A))) 5 rfl rfl rfl ty26 rfl (VP.le_refl _)) ?_
      refine WP.nil ?_
      refine QE.next ?_
      refine CW.draw (Γ := [.fr (VP.ex (.pointer (some ⟨b4, 2, none⟩))), .fr (kC.is (y + (x * (kF A B)))), .fr (VP.ex (.pointer (some ⟨b4, 0, none⟩))), .fr (kC.is x), .fr (kC.is (-x)), .fr (VP.ex (.pointer (some ⟨b4, 6, none⟩))), .fr (kC.is (t + (z * (kF A B)))), .fr (VP.ex (.pointer (some ⟨b4, 4, none⟩))), .fr (kC.is z), .fr (kC.is (-z)), .fr ((kArr 4 kC).is [y + (x * (kF A B)), -x, t + (z * (kF A B)), -z])]) (lates := [false, false, false, false, false, false, false, false, false, false, false]) (by kernel_rfl) (Chk.of rfl (by kernel_rfl) rfl) (fun _ _ _ _ _ h => h) (fun q_ x_ h_ => ?_) (fun σ10 => ?_)
      · match q_, h_ with
        | 0, h_ => cases h_; exact Ob.f rfl .n fun N => (O.ixA (o' := 2) 1 rfl rfl Try.underlying28 ty24 rfl (by decide) (by rfl))
        | 1, h_ => cases h_; exact Ob.f rfl .n fun N => (O.ld (p := kC.is (y + (x * (kF A B)))) rfl (mem_app N (mem_at 2 rfl)) (Lens.arr 0 1 (by decide) (Lens.id _)) ty24 rfl)
        | 2, h_ => cases h_; exact Ob.f rfl .n fun N => (O.ixA (o' := 0) 0 rfl rfl Try.underlying28 ty24 rfl (by decide) (by rfl))
        | 3, h_ => cases h_; exact Ob.f rfl .n fun N => (O.ld (p := kC.is x) rfl (mem_app N (mem_at 2 rfl)) (Lens.arr 0 0 (by decide) (Lens.id _)) ty24 rfl)
        | 4, h_ => cases h_; exact Ob.f rfl .n fun N => (O.fn fn34 (evs.l rfl (kC_Z hS.fx) evs.nil) (c_zint_Neg x))
        | 5, h_ => cases h_; exact Ob.f rfl .n fun N => (O.ixA (o' := 6) 3 rfl rfl Try.underlying28 ty24 rfl (by decide) (by rfl))
        | 6, h_ => cases h_; exact Ob.f rfl .n fun N => (O.ld (p := kC.is (t + (z * (kF A B)))) rfl (mem_app N (mem_at 2 rfl)) (Lens.arr 0 3 (by decide) (Lens.id _)) ty24 rfl)
        | 7, h_ => cases h_; exact Ob.f rfl .n fun N => (O.ixA (o' := 4) 2 rfl rfl Try.underlying28 ty24 rfl (by decide) (by rfl))
        | 8, h_ => cases h_; exact Ob.f rfl .n fun N => (O.ld (p := kC.is z) rfl (mem_app N (mem_at 2 rfl)) (Lens.arr 0 2 (by decide) (Lens.id _)) ty24 rfl)
        | 9, h_ => cases h_; exact Ob.f rfl .n fun N => (O.fn fn34 (evs.l rfl (kC_Z hS.fz) evs.nil) (c_zint_Neg z))
        | 10, h_ => cases h_; exact Ob.f rfl .n fun N => (O.bld lit28_ar4_C rfl (evp.c rfl (evp.c rfl (evp.c rfl (evp.c rfl evp.n)))) (.cons rfl (Lens.arr 0 0 (by decide) (Lens.id _)) (.cons rfl (Lens.arr 0 1 (by decide) (Lens.id _)) (.cons rfl (Lens.arr 0 2 (by decide) (Lens.id _)) (.cons rfl (Lens.arr 0 3 (by decide) (Lens.id _)) (.nil _))))))
        | n_ + 11, h_ => simp at h_
      refine WP.t .n (O.stW (l := (kArr 4 kC)) (u := [y + (x * (kF A B)), -x, t + (z * (kF A B)), -z]) 2 rfl rfl rfl ty28 rfl (VP.le_refl _)) ?_
      refine WP.nil ?_
      refine QE.blkN ?_
      exact QE.round7 (sC A B C) (-(sB A B)) A (y + x * kF A B) (-x) (t + z * kF A B) (-z) (by exact gs_dec' hG.p hnr) (gsR_s hG hnr) (Imp.cons rfl (Imp.cons rfl (Imp.cons rfl (Imp.cons rfl Imp.nil)))) (OImp.os (OS.skip (OS.skip (OS.keepLe (OB.box_eq (by rfl)) (OS.keep (OS.keep (OS.keepLe (OB.box_eq (by rfl)) OS.nil)))))))

set_option maxRecDepth 20000 in
set_option maxHeartbeats 1000000 in
theorem c_quad_Gauss (A B C : Int) (n : Nat) (hn : n ≤ 100000000) (ha : Sz n A) (hb : Sz n B) (hc : Sz n C) : Fn Try.prog 5 [(kPair kZ (kPair kZ kZ)).is (A, B, C)] (VP.tup [(kPair kC (kPair kC kC)).is ((GV A B C).1), (kArr 4 kC).is ((GV A B C).2.1), (kInt .i64).is ((GV A B C).2.2)]) := by
  refine Con.enter Try.func5 rfl rfl fun m w => ?_
  refine CW.seq ?_
  refine CW.region ?_
  refine WP.bx .n rfl fun b1 => ?_
  refine WP.al .n z26_pr_C_pr_C_C__ fun b2 => ?_
  refine WP.al .n z28_ar4_C fun b3 => ?_
  refine WP.s .n (O.asg rfl) ?_
  refine WP.nil ?_
  refine QE.next ?_
  refine CW.seq ?_
  refine CW.seq ?_
  refine CW.region ?_
  refine WP.s .n (O.ld (p := (kPair kZ (kPair kZ kZ)).is (A, B, C)) rfl (mem_at 2 rfl) (Lens.id _) ty26 rfl) ?_
  refine WP.s .n (O.fn fn14 (evs.c rfl evs.nil) (c_quad_sound A B C (DiS_of ha hb hc (by omega)))) ?_
  refine WP.s .n (O.not rfl) ?_
  refine WP.nil ?_
  refine QE.next ?_
  refine CW.cond rfl (fun h_t9 => ?_) (fun h_t9 => ?_)
  · have hp : ¬ posF A B C := by simpa using h_t9
    refine CW.seq ?_
    refine CW.region ?_
    refine WP.s .n (O.bld lit26_pr_C_pr_C_C__ rfl evp.n (.nil _)) ?_
    refine WP.s .n (O.bld lit28_ar4_C rfl evp.n (.nil _)) ?_
    refine WP.t .n (O.stW (l := (kPair kC (kPair kC kC))) (u := (0, (0, 0))) 1 rfl rfl rfl ty26 rfl (VP.le_refl _)) ?_
    refine WP.t .n (O.stW (l := (kArr 4 kC)) (u := (List.replicate 4 0)) 0 rfl rfl rfl ty28 rfl (VP.le_refl _)) ?_
    refine WP.s .n (O.asg rfl) ?_
    refine WP.nil ?_
    refine QE.next ?_
    refine CW.ret ?_
    refine QE.thenR ?_
    refine ST.obtold 1 rfl (OB.box_eq (y := ((GV A B C).1)) (by rw [GV_n hp])) ?_
    refine ST.obtold 0 rfl (OB.box_eq (y := ((GV A B C).2.1)) (by rw [GV_n hp])) ?_
    refine ST.told 4 rfl (is_eq (y := ((GV A B C).2.2)) (by rw [GV_n hp])) ?_
    exact QE.done (.inl rfl) rfl (ResOk.c rfl (mem_at 1 rfl) ty26 (ResOk.c rfl (mem_at 0 rfl) ty28 (ResOk.t rfl ResOk.nil))) (OImp.sub (List.nil_sublist _)) ⟨rfl, rfl⟩
  · have hp : posF A B C := by simpa using h_t9
    refine CW.skip ?_
    refine QE.next ?_
    refine CW.seq ?_
    refine CW.region ?_
    refine WP.s .n (O.ld (p := (kPair kZ (kPair kZ kZ)).is (A, B, C)) rfl (mem_at 2 rfl) (Lens.id _) ty26 rfl) ?_
    refine WP.s .n (O.fn fn15 (evs.c rfl evs.nil) (c_quad_gauss A B C n (by assumption) (by assumption) (by assumption) (by assumption) hp)) ?_
    refine WP.s .n (O.mv rfl) ?_
    refine WP.s .n (O.ext rfl rfl) ?_
    refine WP.s .n (O.ext rfl rfl) ?_
    refine WP.al .n z26_pr_C_pr_C_C__ fun b4 => ?_
    refine WP.al .n z28_ar4_C fun b5 => ?_
    refine WP.t .n (O.stW (l := (kPair kC (kPair kC kC))) (u := (gs A B C 1 0 0 1).1) 1 rfl rfl rfl ty26 rfl (VP.le_refl _)) ?_
    refine WP.t .n (O.stW (l := (kArr 4 kC)) (u := (gs A B C 1 0 0 1).2) 0 rfl rfl rfl ty28 rfl (VP.le_refl _)) ?_
    refine WP.nil ?_
    refine QE.next ?_
    refine CW.seq ?_
    refine CW.join [(0, (kPair kZ (kPair kZ kZ)).is (A, B, C)), (1, VP.ex (.pointer (some ⟨b1, 0, none⟩))), (2, VP.ex (.pointer (some ⟨b2, 0, none⟩))), (3, VP.ex (.pointer (some ⟨b3, 0, none⟩))), (4, (kInt .i64).is 0), (5, VP.ex (.pointer (some ⟨b4, 0, none⟩))), (6, VP.ex (.pointer (some ⟨b5, 0, none⟩))), (7, (kPair kZ (kPair kZ kZ)).is (A, B, C)), (8, kBool.is (decide (posF A B C))), (9, kBool.is (!(decide (posF A B C)))), (12, VP.tup [(kPair kC (kPair kC kC)).is ((gs A B C 1 0 0 1).1), (kArr 4 kC).is ((gs A B C 1 0 0 1).2)]), (13, (kPair kZ (kPair kZ kZ)).is (A, B, C)), (14, VP.tup [(kPair kC (kPair kC kC)).is ((gs A B C 1 0 0 1).1), (kArr 4 kC).is ((gs A B C 1 0 0 1).2)]), (15, (kPair kC (kPair kC kC)).is ((gs A B C 1 0 0 1).1)), (16, (kArr 4 kC).is ((gs A B C 1 0 0 1).2)), (17, (kPair kC (kPair kC kC)).is ((gs A B C 1 0 0 1).1)), (18, (kArr 4 kC).is ((gs A B C 1 0 0 1).2))] [OB.box b5 28 (kArr 4 kC) ((gs A B C 1 0 0 1).2), OB.box b4 26 (kPair kC (kPair kC kC)) ((gs A B C 1 0 0 1).1), OB.box b3 28 (kArr 4 kC) ((gs A B C 1 0 0 1).2), OB.box b2 26 (kPair kC (kPair kC kC)) ((gs A B C 1 0 0 1).1), OB.box b1 26 (kPair kZ (kPair kZ kZ)) (A, B, C)] ?_ ?_
    · refine CW.any (by kernel_rfl) ?_
      refine DA.go 0 [1] (by kernel_rfl) ⟨?_, ⟨?_, trivial⟩⟩
      · refine DO.w rfl ?_
        refine WP.s .n (O.ld rfl (mem_at 1 rfl) (Lens.id _) ty26 rfl) ?_
        refine WP.nil ?_
        refine DO.nx ?_
        refine DA.go 1 [2] (by kernel_rfl) ⟨?_, ⟨?_, trivial⟩⟩
        · refine DO.w rfl ?_
          refine WP.s .n (O.ld (p := (kArr 4 kC).is ((gs A B C 1 0 0 1).2)) rfl (mem_at 0 rfl) (Lens.id _) ty28 rfl) ?_
          refine WP.nil ?_
          refine DO.nx ?_
          refine DA.go 2 [] (by kernel_rfl) ⟨?_, trivial⟩
          refine DO.w rfl ?_
          refine WP.t .n (O.stW (l := (kPair kC (kPair kC kC))) (u := (gs A B C 1 0 0 1).1) 3 rfl rfl rfl ty26 rfl (VP.le_refl _)) ?_
          refine WP.nil ?_
          refine DO.nx ?_
          refine DA.go 3 [] (by kernel_rfl) ⟨?_, trivial⟩
          refine DO.w rfl ?_
          refine WP.t .n (O.stW (l := (kArr 4 kC)) (u := (gs A B C 1 0 0 1).2) 2 rfl rfl rfl ty28 rfl (VP.le_refl _)) ?_
          refine WP.nil ?_
          refine DO.nx ?_
          refine DA.go 4 [] (by kernel_rfl) ⟨?_, trivial⟩
          refine DO.w rfl ?_
          refine WP.s .n (O.asg rfl) ?_
          refine WP.nil ?_
          refine DO.nx ?_
          refine DA.nil (by kernel_rfl) ?_
          exact QE.join (Imp.cons rfl (Imp.cons rfl (Imp.cons rfl (Imp.cons rfl (Imp.cons rfl (Imp.cons rfl (Imp.cons rfl (Imp.cons rfl (Imp.cons rfl (Imp.cons rfl (Imp.cons rfl (Imp.cons rfl (Imp.cons rfl (Imp.cons rfl (Imp.cons rfl (Imp.cons rfl (Imp.cons rfl Imp.nil))))))))))))))))) (OImp.refl _)
        · refine DO.w rfl ?_
          refine WP.t .n (O.stW (l := (kPair kC (kPair kC kC))) (u := (gs A B C 1 0 0 1).1) 3 rfl rfl rfl ty26 rfl (VP.le_refl _)) ?_
          refine WP.nil ?_
          refine DO.nx ?_
          refine DA.go 1 [] (by kernel_rfl) ⟨?_, trivial⟩
          refine DO.w rfl ?_
          refine WP.s .n (O.ld (p := (kArr 4 kC).is ((gs A B C 1 0 0 1).2)) rfl (mem_at 0 rfl) (Lens.id _) ty28 rfl) ?_
          refine WP.nil ?_
          refine DO.nx ?_
          refine DA.go 3 [] (by kernel_rfl) ⟨?_, trivial⟩
          refine DO.w rfl ?_
          refine WP.t .n (O.stW (l := (kArr 4 kC)) (u := (gs A B C 1 0 0 1).2) 2 rfl rfl rfl ty28 rfl (VP.le_refl _)) ?_
          refine WP.nil ?_
          refine DO.nx ?_
          refine DA.go 4 [] (by kernel_rfl) ⟨?_, trivial⟩
          refine DO.w rfl ?_
          refine WP.s .n (O.asg rfl) ?_
          refine WP.nil ?_
          refine DO.nx ?_
          refine DA.nil (by kernel_rfl) ?_
          exact QE.join (Imp.cons rfl (Imp.cons rfl (Imp.cons rfl (Imp.cons rfl (Imp.cons rfl (Imp.cons rfl (Imp.cons rfl (Imp.cons rfl (Imp.cons rfl (Imp.cons rfl (Imp.cons rfl (Imp.cons rfl (Imp.cons rfl (Imp.cons rfl (Imp.cons rfl (Imp.cons rfl (Imp.cons rfl Imp.nil))))))))))))))))) (OImp.refl _)
      · refine DO.w rfl ?_
        refine WP.s .n (O.ld (p := (kArr 4 kC).is ((gs A B C 1 0 0 1).2)) rfl (mem_at 0 rfl) (Lens.id _) ty28 rfl) ?_
        refine WP.nil ?_
        refine DO.nx ?_
        refine DA.go 0 [] (by kernel_rfl) ⟨?_, trivial⟩
        refine DO.w rfl ?_
        refine WP.s .n (O.ld rfl (mem_at 1 rfl) (Lens.id _) ty26 rfl) ?_
        refine WP.nil ?_
        refine DO.nx ?_
        refine DA.go 2 [] (by kernel_rfl) ⟨?_, trivial⟩
        refine DO.w rfl ?_
        refine WP.t .n (O.stW (l := (kPair kC (kPair kC kC))) (u := (gs A B C 1 0 0 1).1) 3 rfl rfl rfl ty26 rfl (VP.le_refl _)) ?_
        refine WP.nil ?_
        refine DO.nx ?_
        refine DA.go 3 [] (by kernel_rfl) ⟨?_, trivial⟩
        refine DO.w rfl ?_
        refine WP.t .n (O.stW (l := (kArr 4 kC)) (u := (gs A B C 1 0 0 1).2) 2 rfl rfl rfl ty28 rfl (VP.le_refl _)) ?_
        refine WP.nil ?_
        refine DO.nx ?_
        refine DA.go 4 [] (by kernel_rfl) ⟨?_, trivial⟩
        refine DO.w rfl ?_
        refine WP.s .n (O.asg rfl) ?_
        refine WP.nil ?_
        refine DO.nx ?_
        refine DA.nil (by kernel_rfl) ?_
        exact QE.join (Imp.cons rfl (Imp.cons rfl (Imp.cons rfl (Imp.cons rfl (Imp.cons rfl (Imp.cons rfl (Imp.cons rfl (Imp.cons rfl (Imp.cons rfl (Imp.cons rfl (Imp.cons rfl (Imp.cons rfl (Imp.cons rfl (Imp.cons rfl (Imp.cons rfl (Imp.cons rfl (Imp.cons rfl Imp.nil))))))))))))))))) (OImp.refl _)
    refine QE.next ?_
    refine CW.ret ?_
    refine ST.obtold 3 rfl (OB.box_eq (y := ((GV A B C).1)) (by rw [GV_p hp])) ?_
    refine ST.obtold 2 rfl (OB.box_eq (y := ((GV A B C).2.1)) (by rw [GV_p hp])) ?_
    refine ST.told 4 rfl (is_eq (y := ((GV A B C).2.2)) (by rw [GV_p hp])) ?_
    exact QE.done (.inl rfl) rfl (ResOk.c rfl (mem_at 3 rfl) ty26 (ResOk.c rfl (mem_at 2 rfl) ty28 (ResOk.t rfl ResOk.nil))) (OImp.sub (List.nil_sublist _)) ⟨rfl, rfl⟩

end Fw


/- Which forms are one; the document on binary forms; the statement QuadBinaries. -/
set_option linter.unusedVariables false
set_option linter.unusedSimpArgs false
set_option exponentiation.threshold 400
namespace Fw
open Go Go.Proofs

set_option maxRecDepth 20000 in
set_option maxHeartbeats 1000000 in
theorem c_quad_One (A B C D E F : Int) (n : Nat) (hn : n ≤ 100000000) (ha : Sz n A) (hb : Sz n B) (hc : Sz n C) (hd : Sz n D) (he : Sz n E) (hf : Sz n F) : Fn Try.prog 6 [(kPair kZ (kPair kZ kZ)).is (A, B, C), (kPair kZ (kPair kZ kZ)).is (D, E, F)] (VP.tup [kBool.is ((oneV A B C D E F).1), (kInt .i64).is ((oneV A B C D E F).2)]) := by
  refine Con.enter Try.func6 rfl rfl fun m w => ?_
  refine CW.seq ?_
  refine CW.region ?_
  refine WP.bx .n rfl fun b1 => ?_
  refine WP.bx .n rfl fun b2 => ?_
  refine WP.s .n (O.asg rfl) ?_
  refine WP.s .n (O.asg rfl) ?_
  refine WP.nil ?_
  refine QE.next ?_
  refine CW.seq ?_
  refine CW.seq ?_
  refine CW.region ?_
  refine WP.s .n (O.ld (p := (kPair kZ (kPair kZ kZ)).is (A, B, C)) rfl (mem_at 1 rfl) (Lens.id _) ty26 rfl) ?_
  refine WP.s .n (O.fn fn14 (evs.c rfl evs.nil) (c_quad_sound A B C (DiS_of ha hb hc (by omega)))) ?_
  refine WP.s .n (O.not rfl) ?_
  refine WP.s .n (O.mv rfl) ?_
  refine WP.split 13 rfl (fun h_t13 => ?_) (fun h_t13 => ?_)
  · have hp1 : ¬ posF A B C := by simpa using h_t13
    refine WP.ku (b := true) rfl rfl ?_
    refine WP.ku (b := true) rfl rfl ?_
    refine WP.ku (b := true) rfl rfl ?_
    refine WP.s .n (O.pickT rfl rfl) ?_
    refine WP.nil ?_
    refine QE.next ?_
    refine CW.condT rfl ?_
    refine CW.seq ?_
    refine CW.region ?_
    refine WP.s .n (O.asg rfl) ?_
    refine WP.s .n (O.asg rfl) ?_
    refine WP.nil ?_
    refine QE.next ?_
    refine CW.ret ?_
    refine QE.thenR ?_
    have hO := oneV_n (A := A) (B := B) (C := C) (D := D) (E := E) (F := F) (fun h => hp1 h.1)
    refine ST.told 4 rfl (is_eq (y := ((oneV A B C D E F).1)) (by rw [hO])) ?_
    refine ST.told 5 rfl (is_eq (y := ((oneV A B C D E F).2)) (by rw [hO])) ?_
    exact QE.done (.inl rfl) rfl (ResOk.t rfl (ResOk.t rfl ResOk.nil)) (OImp.sub (List.nil_sublist _)) ⟨rfl, rfl⟩
  · have hp1 : posF A B C := by simpa using h_t13
    refine WP.s (.g rfl rfl) (O.ld (p := (kPair kZ (kPair kZ kZ)).is (D, E, F)) rfl (mem_at 0 rfl) (Lens.id _) ty26 rfl) ?_
    refine WP.s (.g rfl rfl) (O.fn fn14 (evs.c rfl evs.nil) (c_quad_sound D E F (DiS_of hd he hf (by omega)))) ?_
    refine WP.s (.g rfl rfl) (O.not rfl) ?_
    refine WP.s .n (O.pickF rfl rfl) ?_
    refine WP.nil ?_
    refine QE.next ?_
    refine CW.cond rfl (fun h_t17 => ?_) (fun h_t17 => ?_)
    · have hp2 : ¬ posF D E F := by simpa using h_t17
      refine CW.seq ?_
      refine CW.region ?_
      refine WP.s .n (O.asg rfl) ?_
      refine WP.s .n (O.asg rfl) ?_
      refine WP.nil ?_
      refine QE.next ?_
      refine CW.ret ?_
      refine QE.thenR ?_
      have hO := oneV_n (A := A) (B := B) (C := C) (D := D) (E := E) (F := F) (fun h => hp2 h.2)
      refine ST.told 4 rfl (is_eq (y := ((oneV A B C D E F).1)) (by rw [hO])) ?_
      refine ST.told 5 rfl (is_eq (y := ((oneV A B C D E F).2)) (by rw [hO])) ?_
      exact QE.done (.inl rfl) rfl (ResOk.t rfl (ResOk.t rfl ResOk.nil)) (OImp.sub (List.nil_sublist _)) ⟨rfl, rfl⟩
    · have hp2 : posF D E F := by simpa using h_t17
      have hs1 := gs_Sm hn hp1 ha hb hc
      have hs2 := gs_Sm hn hp2 hd he hf
      refine CW.skip ?_
      refine QE.next ?_
      refine CW.seq ?_
      refine CW.region ?_
      refine WP.s .n (O.ld (p := (kPair kZ (kPair kZ kZ)).is (A, B, C)) rfl (mem_at 1 rfl) (Lens.id _) ty26 rfl) ?_
      refine WP.s .n (O.fn fn15 (evs.c rfl evs.nil) (c_quad_gauss A B C n (by assumption) (by assumption) (by assumption) (by assumption) hp1)) ?_
      refine WP.s .n (O.mv rfl) ?_
      refine WP.s .n (O.ext rfl rfl) ?_
      refine WP.s .n (O.ext rfl rfl) ?_
      refine WP.al .n z26_pr_C_pr_C_C__ fun b3 => ?_
      refine WP.al .n z28_ar4_C fun b4 => ?_
      refine WP.t .n (O.stW (l := (kPair kC (kPair kC kC))) (u := (gs A B C 1 0 0 1).1) 1 rfl rfl rfl ty26 rfl (VP.le_refl _)) ?_
      refine WP.t .n (O.stW (l := (kArr 4 kC)) (u := (gs A B C 1 0 0 1).2) 0 rfl rfl rfl ty28 rfl (VP.le_refl _)) ?_
      refine WP.nil ?_
      refine QE.next ?_
      refine CW.seq ?_
      refine CW.region ?_
      refine WP.s .n (O.ld (p := (kPair kZ (kPair kZ kZ)).is (D, E, F)) rfl (mem_at 2 rfl) (Lens.id _) ty26 rfl) ?_
      refine WP.s .n (O.fn fn15 (evs.c rfl evs.nil) (c_quad_gauss D E F n (by assumption) (by assumption) (by assumption) (by assumption) hp2)) ?_
      refine WP.s .n (O.mv rfl) ?_
      refine WP.s .n (O.ext rfl rfl) ?_
      refine WP.s .n (O.ext rfl rfl) ?_
      refine WP.al .n z26_pr_C_pr_C_C__ fun b5 => ?_
      refine WP.al .n z28_ar4_C fun b6 => ?_
      refine WP.t .n (O.stW (l := (kPair kC (kPair kC kC))) (u := (gs D E F 1 0 0 1).1) 1 rfl rfl rfl ty26 rfl (VP.le_refl _)) ?_
      refine WP.t .n (O.stW (l := (kArr 4 kC)) (u := (gs D E F 1 0 0 1).2) 0 rfl rfl rfl ty28 rfl (VP.le_refl _)) ?_
      refine WP.nil ?_
      refine QE.next ?_
      refine CW.seq ?_
      refine CW.region ?_
      refine WP.s .n (O.fa rfl fld26_0 rfl) ?_
      refine WP.s .n (O.ld rfl (mem_at 3 rfl) (Lens.fst (Lens.id _)) ty24 rfl) ?_
      refine WP.s .n (O.fa rfl fld26_0 rfl) ?_
      refine WP.s .n (O.ld rfl (mem_at 1 rfl) (Lens.fst (Lens.id _)) ty24 rfl) ?_
      refine WP.s .n (O.fn fn16 (evs.l rfl (kC_Z hs1.1) (evs.l rfl (kC_Z hs2.1) evs.nil)) (c_zint_Compare (((gs A B C 1 0 0 1).1).1) (((gs D E F 1 0 0 1).1).1))) ?_
      refine WP.s .n (O.eq rfl rfl) ?_
      refine WP.s .n (O.mv rfl) ?_
      refine WP.splitD 34 rfl (fun h_t34 => ?_) (fun h_t34 => ?_)
      · refine WP.s (.g rfl rfl) (O.fa rfl fld26_1 rfl) ?_
        refine WP.s (.g rfl rfl) (O.ld rfl (mem_at 3 rfl) (Lens.snd (Lens.fst (Lens.id _))) ty24 rfl) ?_
        refine WP.s (.g rfl rfl) (O.fa rfl fld26_1 rfl) ?_
        refine WP.s (.g rfl rfl) (O.ld rfl (mem_at 1 rfl) (Lens.snd (Lens.fst (Lens.id _))) ty24 rfl) ?_
        refine WP.s (.g rfl rfl) (O.fn fn16 (evs.l rfl (kC_Z hs1.2.1) (evs.l rfl (kC_Z hs2.2.1) evs.nil)) (c_zint_Compare ((((gs A B C 1 0 0 1).1).2).1) ((((gs D E F 1 0 0 1).1).2).1))) ?_
        refine WP.s (.g rfl rfl) (O.eq rfl rfl) ?_
        refine WP.s .n (O.pickT rfl rfl) ?_
        refine WP.s .n (O.mv rfl) ?_
        refine WP.splitD 42 rfl (fun h_t42 => ?_) (fun h_t42 => ?_)
        · refine WP.s (.g rfl rfl) (O.fa rfl fld26_2 rfl) ?_
          refine WP.s (.g rfl rfl) (O.ld rfl (mem_at 3 rfl) (Lens.snd (Lens.snd (Lens.id _))) ty24 rfl) ?_
          refine WP.s (.g rfl rfl) (O.fa rfl fld26_2 rfl) ?_
          refine WP.s (.g rfl rfl) (O.ld rfl (mem_at 1 rfl) (Lens.snd (Lens.snd (Lens.id _))) ty24 rfl) ?_
          refine WP.s (.g rfl rfl) (O.fn fn16 (evs.l rfl (kC_Z hs1.2.2) (evs.l rfl (kC_Z hs2.2.2) evs.nil)) (c_zint_Compare ((((gs A B C 1 0 0 1).1).2).2) ((((gs D E F 1 0 0 1).1).2).2))) ?_
          refine WP.s (.g rfl rfl) (O.eq rfl rfl) ?_
          refine WP.s .n (O.pickT rfl rfl) ?_
          refine WP.s .n (O.asg rfl) ?_
          refine WP.s .n (O.asg rfl) ?_
          refine WP.nil ?_
          refine QE.next ?_
          refine CW.ret ?_
          have hO := oneV_p hp1 hp2
          refine ST.told 4 rfl (is_eq (y := ((oneV A B C D E F).1)) (by rw [hO]; exact eq3_t h_t34 h_t42)) ?_
          refine ST.told 5 rfl (is_eq (y := ((oneV A B C D E F).2)) (by rw [hO])) ?_
          exact QE.done (.inl rfl) rfl (ResOk.t rfl (ResOk.t rfl ResOk.nil)) (OImp.sub (List.nil_sublist _)) ⟨rfl, rfl⟩
        · refine WP.ku (b := false) rfl rfl ?_
          refine WP.ku (b := false) rfl rfl ?_
          refine WP.ku (b := false) rfl rfl ?_
          refine WP.ku (b := false) rfl rfl ?_
          refine WP.ku (b := false) rfl rfl ?_
          refine WP.ku (b := false) rfl rfl ?_
          refine WP.s .n (O.pickF rfl rfl) ?_
          refine WP.s .n (O.asg rfl) ?_
          refine WP.s .n (O.asg rfl) ?_
          refine WP.nil ?_
          refine QE.next ?_
          refine CW.ret ?_
          have hO := oneV_p hp1 hp2
          refine ST.told 4 rfl (is_eq (y := ((oneV A B C D E F).1)) (by rw [hO]; exact eq3_b h_t42)) ?_
          refine ST.told 5 rfl (is_eq (y := ((oneV A B C D E F).2)) (by rw [hO])) ?_
          exact QE.done (.inl rfl) rfl (ResOk.t rfl (ResOk.t rfl ResOk.nil)) (OImp.sub (List.nil_sublist _)) ⟨rfl, rfl⟩
      · refine WP.ku (b := false) rfl rfl ?_
        refine WP.ku (b := false) rfl rfl ?_
        refine WP.ku (b := false) rfl rfl ?_
        refine WP.ku (b := false) rfl rfl ?_
        refine WP.ku (b := false) rfl rfl ?_
        refine WP.ku (b := false) rfl rfl ?_
        refine WP.s .n (O.pickF rfl rfl) ?_
        refine WP.s .n (O.mv rfl) ?_
        refine WP.ku (b := false) rfl rfl ?_
        refine WP.ku (b := false) rfl rfl ?_
        refine WP.ku (b := false) rfl rfl ?_
        refine WP.ku (b := false) rfl rfl ?_
        refine WP.ku (b := false) rfl rfl ?_
        refine WP.ku (b := false) rfl rfl ?_
        refine WP.s .n (O.pickF rfl rfl) ?_
        refine WP.s .n (O.asg rfl) ?_
        refine WP.s .n (O.asg rfl) ?_
        refine WP.nil ?_
        refine QE.next ?_
        refine CW.ret ?_
        have hO := oneV_p hp1 hp2
        refine ST.told 4 rfl (is_eq (y := ((oneV A B C D E F).1)) (by rw [hO]; exact eq3_a h_t34)) ?_
        refine ST.told 5 rfl (is_eq (y := ((oneV A B C D E F).2)) (by rw [hO])) ?_
        exact QE.done (.inl rfl) rfl (ResOk.t rfl (ResOk.t rfl ResOk.nil)) (OImp.sub (List.nil_sublist _)) ⟨rfl, rfl⟩

end Fw


/- Plain facts: all reduced forms of a discriminant, one by one; rising lists. -/
set_option linter.unusedVariables false
set_option linter.unusedSimpArgs false
namespace Fw
open Go

/-! ### The numbers' divisor -/
theorem gcd_tmod (a b : Int) : Int.gcd b (a.tmod b) = Int.gcd a b := by
  have h : a.tmod b = a + b * (-(a.tdiv b)) := by
    have := Int.mul_tdiv_add_tmod a b
    rw [Int.mul_neg]; omega
  rw [h, Int.gcd_comm a b, Int.gcd_add_mul_left_right]
theorem tmod_abs {a b : Int} (hb : b ≠ 0) : (a.tmod b).natAbs < b.natAbs := by
  rw [Int.natAbs_tmod]
  exact Nat.mod_lt _ (by omega)
theorem gcd_end (a : Int) : max a (0 - a) = (Int.gcd a 0 : Int) := by rw [Int.gcd_zero]; omega

/-! ### Lists of triples -/
abbrev T3 := Int × Int × Int
def cT (d a b : Int) : Int := (b * b - d).tdiv (4 * a)
def condT (d a b : Int) : Prop := (b * b - d).tmod (4 * a) = 0 ∧ ¬ cT d a b < a ∧ ¬ (cT d a b = a ∧ b < 0) ∧ ((Int.gcd (Int.gcd a b : Int) (cT d a b) : Nat) : Int) = 1
instance (d a b : Int) : Decidable (condT d a b) := by unfold condT; infer_instance
def rowT (d a : Int) : Nat → List T3
  | 0 => []
  | j + 1 => rowT d a j ++ (if condT d a (1 - a + j) then [(a, 1 - a + j, cT d a (1 - a + j))] else [])
def allT (d : Int) : Nat → Int → List T3
  | 0, _ => []
  | f + 1, a => if 3 * a * a ≤ -d then rowT d a (2 * a).toNat ++ allT d f (a + 1) else []
def listT (d : Int) : List T3 := allT d 99 1
theorem rowT_s {d a b : Int} (h : 1 - a ≤ b) : rowT d a (b + 1 - (1 - a)).toNat = rowT d a (b - (1 - a)).toNat ++ (if condT d a b then [(a, b, cT d a b)] else []) := by
  have e : (b + 1 - (1 - a)).toNat = (b - (1 - a)).toNat + 1 := by omega
  rw [e]
  simp only [rowT]
  rw [show 1 - a + (((b - (1 - a)).toNat : Nat) : Int) = b from by omega]
theorem rowT_len (d a : Int) : ∀ j, (rowT d a j).length ≤ j
  | 0 => by simp [rowT]
  | j + 1 => by have := rowT_len d a j; simp only [rowT, List.length_append]; split <;> simp <;> omega
theorem rowT_mem {d a : Int} : ∀ {j : Nat} {x : T3}, x ∈ rowT d a j → x.1 = a ∧ 1 - a ≤ x.2.1 ∧ x.2.1 < 1 - a + j ∧ x.2.2 = cT d a x.2.1
  | 0, x, h => by simp [rowT] at h
  | j + 1, x, h => by
    simp only [rowT, List.mem_append] at h
    rcases h with h | h
    · obtain ⟨h1, h2, h3, h4⟩ := rowT_mem h
      exact ⟨h1, h2, by omega, h4⟩
    · split at h
      · simp at h; subst h; exact ⟨rfl, by show 1 - a ≤ 1 - a + (j : Int); omega, by show 1 - a + (j : Int) < 1 - a + ((j + 1 : Nat) : Int); omega, rfl⟩
      · cases h
def tlt (x y : T3) : Prop := x.1 < y.1 ∨ (x.1 = y.1 ∧ x.2.1 < y.2.1)
theorem rowT_rise (d a : Int) : ∀ j, (rowT d a j).Pairwise tlt
  | 0 => List.Pairwise.nil
  | j + 1 => by
    simp only [rowT]
    refine List.pairwise_append.2 ⟨rowT_rise d a j, ?_, fun x hx y hy => ?_⟩
    · split <;> simp
    · obtain ⟨h1, h2, h3, h4⟩ := rowT_mem hx
      split at hy
      · simp at hy; subst hy; exact .inr ⟨h1, h3⟩
      · cases hy
theorem allT_mem {d : Int} : ∀ {f : Nat} {a : Int} {x : T3}, x ∈ allT d f a → a ≤ x.1 ∧ 3 * x.1 * x.1 ≤ -d ∧ 1 - x.1 ≤ x.2.1 ∧ x.2.1 < 1 - x.1 + (2 * x.1).toNat ∧ x.2.2 = cT d x.1 x.2.1
  | 0, a, x, h => by simp [allT] at h
  | f + 1, a, x, h => by
    simp only [allT] at h
    split at h
    · rename_i hc
      rcases List.mem_append.1 h with h | h
      · obtain ⟨h1, h2, h3, h4⟩ := rowT_mem h
        rw [h1]
        exact ⟨Int.le_refl _, hc, h2, h3, h4⟩
      · obtain ⟨h1, h2⟩ := allT_mem h
        exact ⟨by omega, h2⟩
    · cases h
theorem allT_rise (d : Int) : ∀ (f : Nat) (a : Int), (allT d f a).Pairwise tlt
  | 0, a => List.Pairwise.nil
  | f + 1, a => by
    simp only [allT]
    split
    · refine List.pairwise_append.2 ⟨rowT_rise d a _, allT_rise d f (a + 1), fun x hx y hy => ?_⟩
      have h1 := (rowT_mem hx).1
      have h2 := (allT_mem hy).1
      exact .inl (by omega)
    · exact List.Pairwise.nil
theorem allT_go {d a : Int} (h1 : 1 ≤ a) (h2 : a ≤ 98) (h : 3 * a * a ≤ -d) : rowT d a (2 * a).toNat ++ allT d (100 - (a + 1)).toNat (a + 1) = allT d (100 - a).toNat a := by
  rw [show (100 - a).toNat = (100 - (a + 1)).toNat + 1 from by omega]
  simp only [allT]
  rw [if_pos h]
theorem allT_end {d a : Int} (h2 : a ≤ 98) (h : ¬ 3 * a * a ≤ -d) : allT d (100 - a).toNat a = [] := by
  rw [show (100 - a).toNat = (100 - (a + 1)).toNat + 1 from by omega]
  simp only [allT]
  rw [if_neg h]
/-! ### Bounds -/
theorem a_bd {d a : Int} (hd : -20000 ≤ d) (h1 : 1 ≤ a) (h : 3 * a * a ≤ -d) : a ≤ 81 := by
  rcases Int.lt_or_le 81 a with h2 | h2
  · have h3 : 82 * 82 ≤ a * a := Int.mul_le_mul h2 h2 (by decide) (by omega)
    rw [Int.mul_assoc] at h
    omega
  · exact h2
theorem sq_bd {b : Int} (h1 : -100 ≤ b) (h2 : b ≤ 100) : 0 ≤ b * b ∧ b * b ≤ 10000 := by
  have h3 : b.natAbs * b.natAbs ≤ 100 * 100 := Nat.mul_le_mul (by omega) (by omega)
  have h4 : (b.natAbs * b.natAbs : Int) = b * b := Int.natAbs_mul_self
  constructor
  · have : (0 : Int) ≤ (b.natAbs : Int) * b.natAbs := by exact_mod_cast Nat.zero_le _
    omega
  · have : ((b.natAbs * b.natAbs : Nat) : Int) ≤ 10000 := Int.ofNat_le.2 h3
    rw [Int.natCast_mul] at this
    omega
theorem aa_bd {a : Int} (h1 : 0 ≤ a) (h2 : a ≤ 100) : 0 ≤ 3 * a * a ∧ 3 * a * a ≤ 30000 := by
  have := sq_bd (b := a) (by omega) h2
  rw [Int.mul_assoc]; omega
theorem cT_bd {d a b : Int} (hd : -20000 ≤ d) (hd2 : d < 0) (h1 : 1 ≤ a) (h2 : -100 ≤ b) (h3 : b ≤ 100) : 0 ≤ cT d a b ∧ cT d a b ≤ 30000 := by
  have h4 := sq_bd h2 h3
  unfold cT
  have h5 : 0 ≤ b * b - d := by omega
  rw [Int.tdiv_eq_ediv_of_nonneg h5]
  have h6 := Int.ediv_nonneg h5 (show (0 : Int) ≤ 4 * a by omega)
  have h7 := Int.ediv_le_self (4 * a) h5
  omega
/-- What was listed so far. -/
structure ClR (d a : Int) (out : List T3) : Prop where
  e : out ++ allT d (100 - a).toNat a = listT d
  lo : 1 ≤ a
  hi : a ≤ 82
  len : (out.length : Int) ≤ 200 * (a - 1)
  mem : ∀ x ∈ out, x.1 < a
theorem clR_0 (d : Int) : ClR d 1 [] := ⟨by have e : (100 - 1 : Int).toNat = 99 := by decide
                                            unfold listT; rw [List.nil_append, e], by omega, by omega, by simp, fun x h => by cases h⟩
theorem clR_s {d a b : Int} {out : List T3} (hd : -20000 ≤ d) (h : ClR d a out) (h3 : 3 * a * a ≤ -d) (hb : b = a + 1) : ClR d (a + 1) (out ++ rowT d a (b - (1 - a)).toNat) := by
  have h1 := h.lo
  have h2 := a_bd hd h.lo h3
  have e : (b - (1 - a)).toNat = (2 * a).toNat := by omega
  rw [e]
  have hl := rowT_len d a (2 * a).toNat
  have hl2 := h.len
  refine ⟨?_, by omega, by omega, ?_, fun x hx => ?_⟩
  · rw [List.append_assoc, allT_go h.lo (by omega) h3]; exact h.e
  · rw [List.length_append]; omega
  · rcases List.mem_append.1 hx with hx | hx
    · have := h.mem x hx; omega
    · have := (rowT_mem hx).1; omega
theorem clR_end {d a : Int} {out : List T3} (h : ClR d a out) (h3 : ¬ 3 * a * a ≤ -d) : out = listT d := by
  have h1 := h.hi
  have := h.e
  rw [allT_end (by omega) h3, List.append_nil] at this
  exact this
theorem clR_not {d a b c : Int} {out : List T3} (h : ClR d a out) (hb : 1 - a ≤ b) : decide ((a, b, c) ∈ out ++ rowT d a (b - (1 - a)).toNat) = false := by
  rw [decide_eq_false_iff_not]
  intro hx
  rcases List.mem_append.1 hx with hx | hx
  · have := h.mem _ hx; simp at this
  · have := (rowT_mem hx).2.2.1
    simp only at this
    omega
theorem listT_len {d a : Int} {out : List T3} (h : ClR d a out) : out.length ≤ 16400 := by
  have h1 := h.len
  have h2 := h.hi
  omega
theorem rowT_no {d a b : Int} {out : List T3} (h : 1 - a ≤ b) (hc : ¬ condT d a b) : out ++ rowT d a (b - (1 - a)).toNat = out ++ rowT d a (b + 1 - (1 - a)).toNat := by
  rw [rowT_s h, if_neg hc, List.append_nil]
theorem rowT_yes {d a b : Int} {out : List T3} (h : 1 - a ≤ b) (hc : condT d a b) : out ++ rowT d a (b - (1 - a)).toNat ++ [(a, b, cT d a b)] = out ++ rowT d a (b + 1 - (1 - a)).toNat := by
  rw [rowT_s h, if_pos hc, List.append_assoc]

/-! ### Rising lists -/
def cmpT (p q : T3) : Int := if (p.1 - q.1).sign ≠ 0 then (p.1 - q.1).sign else if (p.2.1 - q.2.1).sign ≠ 0 then (p.2.1 - q.2.1).sign else (p.2.2 - q.2.2).sign
def rise (xs : List T3) : Prop := xs.Pairwise tlt
theorem rise_get {xs : List T3} (h : rise xs) {i j : Nat} (hij : i < j) (hj : j < xs.length) : tlt (xs.getD i (0, 0, 0)) (xs.getD j (0, 0, 0)) := by
  rw [List.getD_eq_getElem?_getD, List.getD_eq_getElem?_getD, List.getElem?_eq_getElem (by omega), List.getElem?_eq_getElem hj]
  exact (List.pairwise_iff_getElem.1 h) i j (by omega) hj hij
theorem cmpT_gt {p q : T3} (h : tlt q p) : ¬ cmpT p q < 0 := by
  unfold cmpT
  rcases h with h | ⟨h1, h2⟩
  · rw [Int.sign_eq_one_of_pos (show 0 < p.1 - q.1 by omega)]; simp
  · rw [if_neg (by rw [h1, Int.sub_self]; decide), Int.sign_eq_one_of_pos (show 0 < p.2.1 - q.2.1 by omega)]; simp
theorem rise_cmp {xs : List T3} (h : rise xs) {i j : Nat} (hij : i < j) (hj : j < xs.length) : ¬ cmpT (xs.getD j (0, 0, 0)) (xs.getD i (0, 0, 0)) < 0 := cmpT_gt (rise_get h hij hj)
/-- The first that is not nought. -/
def orV : List Int → Int
  | [] => 0
  | x :: r => if x ≠ 0 then x else orV r
theorem orV_drop {l : List Int} {i : Nat} (hi : i < l.length) (h : l.getD i 0 = 0) : orV (l.drop i) = orV (l.drop (i + 1)) := by
  rw [List.drop_eq_getElem_cons hi]
  have : l[i] = 0 := by rwa [List.getD_eq_getElem?_getD, List.getElem?_eq_getElem hi] at h
  simp only [orV]
  rw [this, if_neg (by decide)]
theorem orV_hit {l : List Int} {i : Nat} (hi : i < l.length) (h : l.getD i 0 ≠ 0) : l.getD i 0 = orV (l.drop i) := by
  rw [List.drop_eq_getElem_cons hi]
  have e : l.getD i 0 = l[i] := by rw [List.getD_eq_getElem?_getD, List.getElem?_eq_getElem hi]; rfl
  simp only [orV]
  rw [← e, if_pos h]
theorem orV_end {l : List Int} {i : Nat} (hi : l.length ≤ i) : 0 = orV (l.drop i) := by rw [List.drop_of_length_le hi]; rfl
theorem cmpT_or (p q : T3) : orV [(p.1 - q.1).sign, (p.2.1 - q.2.1).sign, (p.2.2 - q.2.2).sign] = cmpT p q := by
  unfold cmpT orV orV orV orV
  split
  · rfl
  · split
    · rfl
    · split
      · rfl
      · rename_i h; exact (Decidable.not_not.1 h).symm
theorem sg_lt' {x y : Int} (h : x < y) : (-1) = (x - y).sign := (Int.sign_eq_neg_one_of_neg (by omega)).symm
theorem sg_gt' {x y : Int} (h : y < x) : 1 = (x - y).sign := (Int.sign_eq_one_of_pos (by omega)).symm
theorem sg_eq' {x y : Int} (h : ¬ x < y) (h2 : ¬ y < x) : 0 = (x - y).sign := by rw [show x - y = 0 from by omega]; rfl
theorem getD_memT {α : Type} {xs : List α} {i : Nat} {d : α} (h : i < xs.length) : xs.getD i d ∈ xs := by
  rw [List.getD_eq_getElem?_getD, List.getElem?_eq_getElem h]; exact List.getElem_mem h
theorem sgn_rng (x : Int) : -1 ≤ x.sign ∧ x.sign ≤ 1 := by
  rcases Int.lt_trichotomy x 0 with h | h | h
  · rw [Int.sign_eq_neg_one_of_neg h]; decide
  · subst h; decide
  · rw [Int.sign_eq_one_of_pos h]; decide
theorem quo4 {n : Int} {k : Nat} (h : n = (k : Int) ∧ k ≤ 1099511627776) : IntKind.i64.wrap (n.tdiv 4) = ((k / 4 : Nat) : Int) := by
  obtain ⟨rfl, h⟩ := h
  have e : ((k : Int)).tdiv 4 = ((k / 4 : Nat) : Int) := by
    rw [Int.tdiv_eq_ediv_of_nonneg (by omega)]; exact (Int.natCast_ediv _ _).symm
  rw [e]
  exact w64 (by omega)
theorem bl_ne {n : Nat} (h : 0 < n) : (bitlen n : Int) ≠ 0 := fun h0 => by
  have h1 : bitlen n = 0 := by omega
  have := bitlen_0.1 h1
  omega
theorem gcdb (a b : Int) : ((Int.gcd a b : Nat) : Int).natAbs ≤ a.natAbs + b.natAbs := by
  rw [Int.natAbs_natCast]
  by_cases h : b = 0
  · subst h; rw [Int.gcd_zero]; omega
  · exact Nat.le_trans (Nat.le_of_dvd (by omega) (Nat.gcd_dvd_right _ _)) (by omega)
theorem tmod4 (d : Int) : -3 ≤ d.tmod 4 ∧ d.tmod 4 ≤ 3 := by
  have := tmod_abs (a := d) (b := 4) (by decide)
  omega
theorem cTw {d a b : Int} (h : 0 ≤ cT d a b ∧ cT d a b ≤ 30000) : IntKind.i64.wrap ((b * b - d).tdiv (4 * a)) = cT d a b := by
  unfold cT at *
  exact w64 (by omega)
def clV (d : Int) : List T3 × Int := if 0 ≤ d ∨ d < -20000 ∨ 1 < (d.tmod 4 + 4).tmod 4 then ([], 1) else (listT d, 0)
theorem clV_1 {d : Int} (h : 0 ≤ d ∨ d < -20000 ∨ 1 < (d.tmod 4 + 4).tmod 4) : clV d = ([], 1) := by unfold clV; rw [if_pos h]
theorem clV_2 {d : Int} (h : ¬ (0 ≤ d ∨ d < -20000 ∨ 1 < (d.tmod 4 + 4).tmod 4)) : clV d = (listT d, 0) := by unfold clV; rw [if_neg h]
theorem listT_bd {d : Int} (hd : -20000 ≤ d) (hd2 : d < 0) {x : T3} (hx : x ∈ listT d) : 1 ≤ x.1 ∧ x.1 ≤ 81 ∧ -100 ≤ x.2.1 ∧ x.2.1 ≤ 100 ∧ 0 ≤ x.2.2 ∧ x.2.2 ≤ 30000 := by
  obtain ⟨h1, h2, h3, h4, h5⟩ := allT_mem hx
  have h6 := a_bd hd h1 h2
  have h7 := cT_bd (d := d) (a := x.1) (b := x.2.1) hd hd2 h1 (by omega) (by omega)
  rw [← h5] at h7
  omega
theorem listT_rise (d : Int) : rise (listT d) := allT_rise d 99 1
end Fw


/- What the library answers of lists that rise: sorting leaves them. -/
set_option linter.unusedVariables false
set_option linter.unusedSimpArgs false
set_option exponentiation.threshold 400
namespace Fw
open Go Go.Proofs

set_option maxRecDepth 20000 in
set_option maxHeartbeats 1000000 in
theorem c_quad_gcd (a b : Int) (ha : a.natAbs ≤ 1000000000) (hb : b.natAbs ≤ 1000000000) : Fn Try.prog 21 [(kInt .i64).is a, (kInt .i64).is b] ((kInt .i64).is (Int.gcd a b : Int)) := by
  refine Con.enter Try.func21 rfl rfl fun m w => ?_
  refine CW.seq ?_
  refine CW.region ?_
  refine WP.s .n (O.asg rfl) ?_
  refine WP.nil ?_
  refine QE.next ?_
  refine CW.seq ?_
  refine CW.block ?_
  refine CW.loop2 (fun (x : Int) (y : Int) => Int.gcd x y = Int.gcd a b ∧ x.natAbs ≤ 1000000000 ∧ y.natAbs ≤ 1000000000) (fun (x : Int) (y : Int) => [(0, (kInt .i64).is x), (1, (kInt .i64).is y)]) (fun (x : Int) (y : Int) => []) (fun (x : Int) (y : Int) => y.natAbs) a b ⟨rfl, ha, hb⟩ (Imp.cons rfl (Imp.cons rfl Imp.nil)) (OImp.refl _) ?_
  intro x y ⟨hg, hx, hy⟩
  refine CW.seq ?_
  refine CW.seq ?_
  refine CW.region ?_
  refine WP.s .n (O.mv rfl) ?_
  refine WP.s .n (O.ne rfl rfl) ?_
  refine WP.nil ?_
  refine QE.next ?_
  refine CW.condD rfl (fun h_t6 => ?_) (fun h_t6 => ?_)
  · refine CW.skip ?_
    refine QE.next ?_
    refine CW.block ?_
    refine CW.join [(0, (kInt .i64).is y), (1, (kInt .i64).is (x.tmod y)), (5, (kInt .i64).is y), (6, kBool.is (decide (y ≠ 0))), (7, (kInt .i64).is y), (8, (kInt .i64).is x), (9, (kInt .i64).is y), (10, (kInt .i64).is (x.tmod y))] [] ?_ ?_
    · refine CW.any (by kernel_rfl) ?_
      refine DA.first 0 rfl (by kernel_rfl) (by kernel_rfl) (by kernel_rfl) (fun _ _ _ _ _ h => h) .n (OV.mv rfl) ?_
      refine DA.first 1 rfl (by kernel_rfl) (by kernel_rfl) (by kernel_rfl) (fun _ _ _ _ _ h => h) .n (OV.mv rfl) ?_
      refine DA.first 2 rfl (by kernel_rfl) (by kernel_rfl) (by kernel_rfl) (fun _ _ _ _ _ h => h) .n (OV.mv rfl) ?_
      refine DA.go 3 [4] (by kernel_rfl) ⟨?_, ⟨?_, trivial⟩⟩
      · refine DO.w rfl ?_
        refine WP.s .n (O.rem rfl rfl (by omega) (c := (x.tmod y)) rfl) ?_
        refine WP.nil ?_
        refine DO.nx ?_
        refine DA.go 4 [] (by kernel_rfl) ⟨?_, trivial⟩
        refine DO.w rfl ?_
        refine WP.s .n (O.asg rfl) ?_
        refine WP.nil ?_
        refine DO.nx ?_
        refine DA.go 5 [] (by kernel_rfl) ⟨?_, trivial⟩
        refine DO.w rfl ?_
        refine WP.s .n (O.asg rfl) ?_
        refine WP.nil ?_
        refine DO.nx ?_
        refine DA.nil (by kernel_rfl) ?_
        exact QE.join (Imp.cons rfl (Imp.cons rfl (Imp.cons rfl (Imp.cons rfl (Imp.cons rfl (Imp.cons rfl (Imp.cons rfl (Imp.cons rfl Imp.nil)))))))) (OImp.refl _)
      · refine DO.w rfl ?_
        refine WP.s .n (O.asg rfl) ?_
        refine WP.nil ?_
        refine DO.nx ?_
        refine DA.go 3 [] (by kernel_rfl) ⟨?_, trivial⟩
        refine DO.w rfl ?_
        refine WP.s .n (O.rem rfl rfl (by omega) (c := (x.tmod y)) rfl) ?_
        refine WP.nil ?_
        refine DO.nx ?_
        refine DA.go 5 [] (by kernel_rfl) ⟨?_, trivial⟩
        refine DO.w rfl ?_
        refine WP.s .n (O.asg rfl) ?_
        refine WP.nil ?_
        refine DO.nx ?_
        refine DA.nil (by kernel_rfl) ?_
        exact QE.join (Imp.cons rfl (Imp.cons rfl (Imp.cons rfl (Imp.cons rfl (Imp.cons rfl (Imp.cons rfl (Imp.cons rfl (Imp.cons rfl Imp.nil)))))))) (OImp.refl _)
    refine QE.blkN ?_
    exact QE.round2 y (x.tmod y) (by exact tmod_abs h_t6) ⟨(gcd_tmod x y).trans hg, hy, by have := tmod_abs (a := x) h_t6; omega⟩ (Imp.cons rfl (Imp.cons rfl Imp.nil)) (OImp.refl _)
  · refine CW.exit ?_
    refine QE.thenE ?_
    refine QE.thenE ?_
    refine QE.blkH ?_
    refine QE.next ?_
    refine CW.seq ?_
    have hy0 : y = 0 := by omega
    refine CW.region ?_
    refine WP.s .n (O.mv rfl) ?_
    refine WP.s .n (O.mv rfl) ?_
    refine WP.s .n (O.neg rfl (c := (0 - x)) (w64 (by omega))) ?_
    refine WP.s .n (O.mx rfl rfl) ?_
    refine WP.s .n (O.asg rfl) ?_
    refine WP.nil ?_
    refine QE.next ?_
    refine CW.ret ?_
    refine ST.told 4 rfl (is_eq (y := ((Int.gcd a b : Nat) : Int)) (by rw [← hg, hy0]; exact gcd_end x)) ?_
    exact QE.done (.inl rfl) rfl (ResOk.tl rfl (is_eq (y := (Int.gcd a b : Int)) (by first | rfl | omega)) ResOk.nil) (OImp.sub (List.nil_sublist _)) ⟨rfl, rfl⟩

set_option maxRecDepth 20000 in
set_option maxHeartbeats 1000000 in
theorem c_sl_Index (v : Value) (xs : List T3) (p : T3) (hn : p ∉ xs) : Con Try.prog 38 [VP.ex v, (kPair kI64 (kPair kI64 kI64)).is p] [OB.row v 56 (kPair kI64 (kPair kI64 kI64)) xs] (fun p Lo => p = (kInt .i64).is (-1) ∧ Lo = [OB.row v 56 (kPair kI64 (kPair kI64 kI64)) xs] ∧ True) := by
  refine Con.enter Try.func38 rfl rfl fun m w => ?_
  refine ST.rowlen 0 rfl fun hB => ?_
  refine CW.seq ?_
  refine CW.region ?_
  refine WP.bx .n rfl fun b1 => ?_
  refine WP.s .n (O.asg rfl) ?_
  refine WP.nil ?_
  refine QE.next ?_
  refine CW.seq ?_
  refine CW.seq ?_
  refine CW.region ?_
  refine WP.s .n (O.mv rfl) ?_
  refine WP.s .n (O.lenR rfl (mem_at 1 rfl) Try.underlying54) ?_
  refine WP.s .n (O.mv rfl) ?_
  refine WP.nil ?_
  refine QE.next ?_
  refine CW.block ?_
  refine CW.loop (fun (i : Nat) => i ≤ xs.length) (fun (i : Nat) => [(0, VP.ex v), (3, VP.ex (.pointer (some ⟨b1, 0, none⟩))), (6, VP.ex v), (7, (kInt .i64).is (xs.length : Int)), (8, (kInt .i64).is (i : Int))]) (fun (i : Nat) => [OB.box b1 56 (kPair kI64 (kPair kI64 kI64)) p, OB.row v 56 (kPair kI64 (kPair kI64 kI64)) xs]) (fun (i : Nat) => xs.length - i) 0 (by omega) (Imp.cons rfl (Imp.cons rfl (Imp.cons rfl (Imp.cons rfl (Imp.consLe rfl (is_eq (y := (0 : Int)) (by first | rfl | omega)) Imp.nil))))) (OImp.refl _) ?_
  intro i hi
  refine CW.seq ?_
  refine CW.region ?_
  refine WP.s .n (O.lt rfl rfl) ?_
  refine WP.nil ?_
  refine QE.next ?_
  refine CW.seq ?_
  refine CW.condD rfl (fun h_t9 => ?_) (fun h_t9 => ?_)
  · refine CW.skip ?_
    refine QE.next ?_
    refine CW.seq ?_
    refine CW.block ?_
    refine CW.seq ?_
    refine CW.region ?_
    refine WP.s .n (O.mv rfl) ?_
    refine WP.s .n (O.asg rfl) ?_
    refine WP.nil ?_
    refine QE.next ?_
    refine CW.seq ?_
    refine CW.draw (Γ := [.fr ((kPair kI64 (kPair kI64 kI64)).is p), .fr (VP.ex v), .fr ((kInt .i64).is (i : Int)), .fr (VP.pel v (i * 3)), .fr ((kPair kI64 (kPair kI64 kI64)).is (xs.getD i (0, (0, 0)))), .fr (kBool.is (decide (p = (xs.getD i (0, (0, 0))))))]) (lates := [false, false, false, false, false, false]) (by kernel_rfl) (Chk.of rfl (by kernel_rfl) rfl) (fun _ _ _ _ _ h => h) (fun q_ x_ h_ => ?_) (fun σ1 => ?_)
    · match q_, h_ with
      | 0, h_ => cases h_; exact Ob.f rfl .n fun N => (O.ld rfl (mem_app N (mem_at 0 rfl)) (Lens.id _) ty56 rfl)
      | 1, h_ => cases h_; exact Ob.f rfl .n fun N => (O.mv rfl)
      | 2, h_ => cases h_; exact Ob.f rfl .n fun N => (O.mv rfl)
      | 3, h_ => cases h_; exact Ob.f rfl .n fun N => (O.ixR (k := (kPair kI64 (kPair kI64 kI64))) (xs := xs) (n := (i : Int)) i rfl rfl (mem_app N (mem_at 1 rfl)) Try.underlying54 ty56 rfl (by omega))
      | 4, h_ => cases h_; exact Ob.f rfl .n fun N => (O.ldR i rfl (mem_app N (mem_at 1 rfl)) (Lens.id _) rfl (y := (xs.getD i (0, (0, 0)))) (gd (0, (0, 0)) (by omega)) ty56 rfl)
      | 5, h_ => cases h_; exact Ob.f rfl .n fun N => (O.eqT rfl rfl eqT56)
      | n_ + 6, h_ => simp at h_
    refine WP.nil ?_
    refine QE.next ?_
    refine CW.condD rfl (fun h => absurd h (fun h => hn (h ▸ getD_memT (by omega)))) (fun h_t16 => ?_)
    refine CW.skip ?_
    refine QE.blkN ?_
    refine QE.next ?_
    refine CW.region ?_
    refine WP.s .n (O.add rfl rfl (c := ((i : Int) + 1)) (w64 (by omega))) ?_
    refine WP.s .n (O.mv rfl) ?_
    refine WP.nil ?_
    exact QE.round (i + 1) (by omega) (by omega) (Imp.cons rfl (Imp.cons rfl (Imp.cons rfl (Imp.cons rfl (Imp.consLe rfl (is_eq (y := (((i + 1) : Nat) : Int)) (by first | rfl | omega)) Imp.nil))))) (OImp.refl _)
  · refine CW.exit ?_
    refine QE.thenE ?_
    refine QE.thenE ?_
    refine QE.blkH ?_
    refine QE.next ?_
    refine CW.seq ?_
    refine CW.region ?_
    refine WP.s .n (O.asg rfl) ?_
    refine WP.nil ?_
    refine QE.next ?_
    refine CW.ret ?_
    exact QE.done (.inl rfl) rfl (ResOk.t rfl ResOk.nil) (OImp.os (OS.skip (OS.keep OS.nil))) ⟨rfl, rfl, trivial⟩

set_option maxRecDepth 20000 in
set_option maxHeartbeats 1000000 in
theorem c_sl_Contains (v : Value) (xs : List T3) (p : T3) (hn : p ∉ xs) : Con Try.prog 22 [VP.ex v, (kPair kI64 (kPair kI64 kI64)).is p] [OB.row v 56 (kPair kI64 (kPair kI64 kI64)) xs] (fun p Lo => p = kBool.is false ∧ Lo = [OB.row v 56 (kPair kI64 (kPair kI64 kI64)) xs] ∧ True) := by
  refine Con.enter Try.func22 rfl rfl fun m w => ?_
  refine CW.seq ?_
  refine CW.region ?_
  refine WP.bx .n rfl fun b1 => ?_
  refine WP.s .n (O.asg rfl) ?_
  refine WP.nil ?_
  refine QE.next ?_
  refine CW.seq ?_
  refine CW.region ?_
  refine WP.s .n (O.mv rfl) ?_
  refine WP.s .n (O.ld rfl (mem_at 0 rfl) (Lens.id _) ty56 rfl) ?_
  refine WP.s .n (O.fn1 (b := OB.row v 56 (kPair kI64 (kPair kI64 kI64)) xs) (mem_at 1 rfl) fn38 (evs.c rfl (evs.c rfl evs.nil)) (c_sl_Index v xs p (by assumption))) ?_
  refine WP.s .n (O.ge rfl rfl) ?_
  refine WP.s .n (O.asg rfl) ?_
  refine WP.nil ?_
  refine QE.next ?_
  refine CW.ret ?_
  exact QE.done (.inl rfl) rfl (ResOk.tl rfl (is_eq (y := false) (by rfl)) ResOk.nil) (OImp.os (OS.skip (OS.keep OS.nil))) ⟨rfl, rfl, trivial⟩

set_option maxRecDepth 20000 in
set_option maxHeartbeats 1000000 in
theorem c_cmp_isNaN (x : Int) : Fn Try.prog 41 [(kInt .i64).is x] (kBool.is false) := by
  refine Con.enter Try.func41 rfl rfl fun m w => ?_
  refine CW.seq ?_
  refine CW.region ?_
  refine WP.s .n (O.asg rfl) ?_
  refine WP.nil ?_
  refine QE.next ?_
  refine CW.seq ?_
  refine CW.region ?_
  refine WP.s .n (O.mv rfl) ?_
  refine WP.s .n (O.mv rfl) ?_
  refine WP.s .n (O.ne rfl rfl) ?_
  refine WP.s .n (O.asg rfl) ?_
  refine WP.nil ?_
  refine QE.next ?_
  refine CW.ret ?_
  refine ST.told 2 rfl (is_eq (y := false) (by simp)) ?_
  exact QE.done (.inl rfl) rfl (ResOk.t rfl ResOk.nil) (OImp.sub (List.nil_sublist _)) ⟨rfl, rfl⟩

set_option maxRecDepth 20000 in
set_option maxHeartbeats 1000000 in
theorem c_cmp_Compare (x y : Int) : Fn Try.prog 26 [(kInt .i64).is x, (kInt .i64).is y] ((kInt .i64).is ((x - y).sign)) := by
  refine Con.enter Try.func26 rfl rfl fun m w => ?_
  refine CW.seq ?_
  refine CW.region ?_
  refine WP.s .n (O.asg rfl) ?_
  refine WP.nil ?_
  refine QE.next ?_
  refine CW.seq ?_
  refine CW.region ?_
  refine WP.s .n (O.mv rfl) ?_
  refine WP.s .n (O.fn fn41 (evs.c rfl evs.nil) (c_cmp_isNaN x)) ?_
  refine WP.s .n (O.asg rfl) ?_
  refine WP.nil ?_
  refine QE.next ?_
  refine CW.seq ?_
  refine CW.region ?_
  refine WP.s .n (O.mv rfl) ?_
  refine WP.s .n (O.fn fn41 (evs.c rfl evs.nil) (c_cmp_isNaN y)) ?_
  refine WP.s .n (O.asg rfl) ?_
  refine WP.nil ?_
  refine QE.next ?_
  refine CW.seq ?_
  refine CW.seq ?_
  refine CW.region ?_
  refine WP.s .n (O.mv rfl) ?_
  refine WP.nil ?_
  refine QE.next ?_
  refine CW.condF rfl ?_
  refine CW.skip ?_
  refine QE.next ?_
  refine CW.seq ?_
  refine CW.seq ?_
  refine CW.region ?_
  refine WP.s .n (O.mv rfl) ?_
  refine WP.nil ?_
  refine QE.next ?_
  refine CW.condF rfl ?_
  refine CW.skip ?_
  refine QE.next ?_
  refine CW.seq ?_
  refine CW.seq ?_
  refine CW.region ?_
  refine WP.s .n (O.mv rfl) ?_
  refine WP.s .n (O.mv rfl) ?_
  refine WP.s .n (O.lt rfl rfl) ?_
  refine WP.nil ?_
  refine QE.next ?_
  refine CW.condD rfl (fun h_t16 => ?_) (fun h_t16 => ?_)
  · refine CW.seq ?_
    refine CW.region ?_
    refine WP.s .n (O.asg rfl) ?_
    refine WP.nil ?_
    refine QE.next ?_
    refine CW.ret ?_
    refine QE.thenR ?_
    refine ST.told 4 rfl (is_eq (y := (x - y).sign) (sg_lt' h_t16)) ?_
    exact QE.done (.inl rfl) rfl (ResOk.t rfl ResOk.nil) (OImp.sub (List.nil_sublist _)) ⟨rfl, rfl⟩
  · refine CW.skip ?_
    refine QE.next ?_
    refine CW.seq ?_
    refine CW.seq ?_
    refine CW.region ?_
    refine WP.s .n (O.mv rfl) ?_
    refine WP.s .n (O.mv rfl) ?_
    refine WP.s .n (O.gt rfl rfl) ?_
    refine WP.nil ?_
    refine QE.next ?_
    refine CW.condD rfl (fun h_t19 => ?_) (fun h_t19 => ?_)
    · refine CW.seq ?_
      refine CW.region ?_
      refine WP.s .n (O.asg rfl) ?_
      refine WP.nil ?_
      refine QE.next ?_
      refine CW.ret ?_
      refine QE.thenR ?_
      refine ST.told 4 rfl (is_eq (y := (x - y).sign) (sg_gt' h_t19)) ?_
      exact QE.done (.inl rfl) rfl (ResOk.t rfl ResOk.nil) (OImp.sub (List.nil_sublist _)) ⟨rfl, rfl⟩
    · refine CW.skip ?_
      refine QE.next ?_
      refine CW.seq ?_
      refine CW.region ?_
      refine WP.s .n (O.asg rfl) ?_
      refine WP.nil ?_
      refine QE.next ?_
      refine CW.ret ?_
      refine ST.told 4 rfl (is_eq (y := (x - y).sign) (sg_eq' h_t16 h_t19)) ?_
      exact QE.done (.inl rfl) rfl (ResOk.t rfl ResOk.nil) (OImp.sub (List.nil_sublist _)) ⟨rfl, rfl⟩

set_option maxRecDepth 20000 in
set_option maxHeartbeats 1000000 in
theorem c_cmp_Or (l : List Int) : Fn Try.prog 25 [(kSl kI64).is l] ((kInt .i64).is (orV l)) := by
  refine Con.enter Try.func25 rfl rfl fun m w => ?_
  refine ST.fact (i := 0) rfl sl_len fun hB => ?_
  refine CW.seq ?_
  refine CW.region ?_
  refine WP.s .n (O.asg rfl) ?_
  refine WP.nil ?_
  refine QE.next ?_
  refine CW.seq ?_
  refine CW.region ?_
  refine WP.s .n (O.asg rfl) ?_
  refine WP.nil ?_
  refine QE.next ?_
  refine CW.seq ?_
  refine CW.seq ?_
  refine CW.region ?_
  refine WP.s .n (O.mv rfl) ?_
  refine WP.s .n (O.lenS rfl Try.underlying76) ?_
  refine WP.s .n (O.mv rfl) ?_
  refine WP.nil ?_
  refine QE.next ?_
  refine CW.block ?_
  refine CW.loop (fun (i : Nat) => i ≤ l.length ∧ orV (l.drop i) = orV l) (fun (i : Nat) => [(0, (kSl kI64).is l), (3, (kInt .i64).is 0), (6, (kSl kI64).is l), (7, (kInt .i64).is (l.length : Int)), (8, (kInt .i64).is (i : Int))]) (fun (i : Nat) => []) (fun (i : Nat) => l.length - i) 0 ⟨Nat.zero_le _, rfl⟩ (Imp.cons rfl (Imp.cons rfl (Imp.cons rfl (Imp.cons rfl (Imp.consLe rfl (is_eq (y := (0 : Int)) (by first | rfl | omega)) Imp.nil))))) (OImp.refl _) ?_
  intro i ⟨hi, ho⟩
  refine CW.seq ?_
  refine CW.region ?_
  refine WP.s .n (O.lt rfl rfl) ?_
  refine WP.nil ?_
  refine QE.next ?_
  refine CW.seq ?_
  refine CW.condD rfl (fun h_t9 => ?_) (fun h_t9 => ?_)
  · refine CW.skip ?_
    refine QE.next ?_
    refine CW.seq ?_
    refine CW.block ?_
    refine CW.seq ?_
    refine CW.region ?_
    refine WP.s .n (O.ix i rfl rfl Try.underlying76 ty3 rfl (v := (l.getD i 0)) (gd 0 (by omega))) ?_
    refine WP.s .n (OpOk.le (O.ldP rfl ty3) (i64_le _)) ?_
    refine WP.s .n (O.asg rfl) ?_
    refine WP.nil ?_
    refine QE.next ?_
    refine CW.seq ?_
    refine CW.region ?_
    refine WP.s .n (O.mv rfl) ?_
    refine WP.s .n (O.mv rfl) ?_
    refine WP.s .n (O.ne rfl rfl) ?_
    refine WP.nil ?_
    refine QE.next ?_
    refine CW.condD rfl (fun h_t14 => ?_) (fun h_t14 => ?_)
    · refine CW.seq ?_
      refine CW.region ?_
      refine WP.s .n (O.mv rfl) ?_
      refine WP.s .n (O.asg rfl) ?_
      refine WP.nil ?_
      refine QE.next ?_
      refine CW.ret ?_
      refine QE.blkR ?_
      refine QE.thenR ?_
      refine QE.thenR ?_
      refine QE.blkR ?_
      refine QE.thenR ?_
      refine ST.told 2 rfl (is_eq (y := (orV l)) (by rw [← ho]; exact orV_hit (by omega) h_t14)) ?_
      exact QE.done (.inl rfl) rfl (ResOk.t rfl ResOk.nil) (OImp.sub (List.nil_sublist _)) ⟨rfl, rfl⟩
    · refine CW.skip ?_
      refine QE.blkN ?_
      refine QE.next ?_
      refine CW.region ?_
      refine WP.s .n (O.add rfl rfl (c := ((i : Int) + 1)) (w64 (by omega))) ?_
      refine WP.s .n (O.mv rfl) ?_
      refine WP.nil ?_
      exact QE.round (i + 1) (by omega) ⟨by omega, by rw [← orV_drop (by omega) (by omega)]; exact ho⟩ (Imp.cons rfl (Imp.cons rfl (Imp.cons rfl (Imp.cons rfl (Imp.consLe rfl (is_eq (y := (((i + 1) : Nat) : Int)) (by first | rfl | omega)) Imp.nil))))) (OImp.refl _)
  · refine CW.exit ?_
    refine QE.thenE ?_
    refine QE.thenE ?_
    refine QE.blkH ?_
    refine QE.next ?_
    refine CW.seq ?_
    refine CW.region ?_
    refine WP.s .n (O.mv rfl) ?_
    refine WP.s .n (O.asg rfl) ?_
    refine WP.nil ?_
    refine QE.next ?_
    refine CW.ret ?_
    refine ST.told 2 rfl (is_eq (y := (orV l)) (by rw [← ho]; exact orV_end (by omega))) ?_
    exact QE.done (.inl rfl) rfl (ResOk.t rfl ResOk.nil) (OImp.sub (List.nil_sublist _)) ⟨rfl, rfl⟩

set_option maxRecDepth 20000 in
set_option maxHeartbeats 1000000 in
theorem c_quad_Classes1 (p q : T3) : Fn Try.prog 24 [(kPair kI64 (kPair kI64 kI64)).is p, (kPair kI64 (kPair kI64 kI64)).is q] ((kInt .i64).is (cmpT p q)) := by
  refine Con.enter Try.func24 rfl rfl fun m w => ?_
  have h1 := sgn_rng (p.1 - q.1)
  have h2 := sgn_rng (p.2.1 - q.2.1)
  have h3 := sgn_rng (p.2.2 - q.2.2)
  refine CW.seq ?_
  refine CW.region ?_
  refine WP.bx .n rfl fun b1 => ?_
  refine WP.bx .n rfl fun b2 => ?_
  refine WP.s .n (O.asg rfl) ?_
  refine WP.nil ?_
  refine QE.next ?_
  refine CW.seq ?_
  refine CW.draw (Γ := [.fr (VP.ex (.pointer (some ⟨b1, 0, none⟩))), .fr ((kInt .i64).is p.1), .fr (VP.ex (.pointer (some ⟨b2, 0, none⟩))), .fr ((kInt .i64).is q.1), .fr ((kInt .i64).is ((p.1 - q.1).sign)), .fr (VP.ex (.pointer (some ⟨b1, 1, none⟩))), .fr ((kInt .i64).is p.2.1), .fr (VP.ex (.pointer (some ⟨b2, 1, none⟩))), .fr ((kInt .i64).is q.2.1), .fr ((kInt .i64).is ((p.2.1 - q.2.1).sign)), .fr (VP.ex (.pointer (some ⟨b1, 2, none⟩))), .fr ((kInt .i64).is p.2.2), .fr (VP.ex (.pointer (some ⟨b2, 2, none⟩))), .fr ((kInt .i64).is q.2.2), .fr ((kInt .i64).is ((p.2.2 - q.2.2).sign)), .fr ((kSl kI64).is [(p.1 - q.1).sign, (p.2.1 - q.2.1).sign, (p.2.2 - q.2.2).sign]), .fr ((kInt .i64).is (orV [(p.1 - q.1).sign, (p.2.1 - q.2.1).sign, (p.2.2 - q.2.2).sign]))]) (lates := [false, false, false, false, false, false, false, false, false, false, false, false, false, false, false, false, false]) (by kernel_rfl) (Chk.of rfl (by kernel_rfl) rfl) (fun _ _ _ _ _ h => h) (fun q_ x_ h_ => ?_) (fun σ1 => ?_)
  · match q_, h_ with
    | 0, h_ => cases h_; exact Ob.f rfl .n fun N => (O.fa rfl fld56_0 rfl)
    | 1, h_ => cases h_; exact Ob.f rfl .n fun N => (OpOk.le (O.ld rfl (mem_app N (mem_at 1 rfl)) (Lens.fst (Lens.id _)) ty3 rfl) (i64_le _))
    | 2, h_ => cases h_; exact Ob.f rfl .n fun N => (O.fa rfl fld56_0 rfl)
    | 3, h_ => cases h_; exact Ob.f rfl .n fun N => (OpOk.le (O.ld rfl (mem_app N (mem_at 0 rfl)) (Lens.fst (Lens.id _)) ty3 rfl) (i64_le _))
    | 4, h_ => cases h_; exact Ob.f rfl .n fun N => (O.fn fn26 (evs.c rfl (evs.c rfl evs.nil)) (c_cmp_Compare p.1 q.1))
    | 5, h_ => cases h_; exact Ob.f rfl .n fun N => (O.fa rfl fld56_1 rfl)
    | 6, h_ => cases h_; exact Ob.f rfl .n fun N => (OpOk.le (O.ld rfl (mem_app N (mem_at 1 rfl)) (Lens.snd (Lens.fst (Lens.id _))) ty3 rfl) (i64_le _))
    | 7, h_ => cases h_; exact Ob.f rfl .n fun N => (O.fa rfl fld56_1 rfl)
    | 8, h_ => cases h_; exact Ob.f rfl .n fun N => (OpOk.le (O.ld rfl (mem_app N (mem_at 0 rfl)) (Lens.snd (Lens.fst (Lens.id _))) ty3 rfl) (i64_le _))
    | 9, h_ => cases h_; exact Ob.f rfl .n fun N => (O.fn fn26 (evs.c rfl (evs.c rfl evs.nil)) (c_cmp_Compare p.2.1 q.2.1))
    | 10, h_ => cases h_; exact Ob.f rfl .n fun N => (O.fa rfl fld56_2 rfl)
    | 11, h_ => cases h_; exact Ob.f rfl .n fun N => (OpOk.le (O.ld rfl (mem_app N (mem_at 1 rfl)) (Lens.snd (Lens.snd (Lens.id _))) ty3 rfl) (i64_le _))
    | 12, h_ => cases h_; exact Ob.f rfl .n fun N => (O.fa rfl fld56_2 rfl)
    | 13, h_ => cases h_; exact Ob.f rfl .n fun N => (OpOk.le (O.ld rfl (mem_app N (mem_at 0 rfl)) (Lens.snd (Lens.snd (Lens.id _))) ty3 rfl) (i64_le _))
    | 14, h_ => cases h_; exact Ob.f rfl .n fun N => (O.fn fn26 (evs.c rfl (evs.c rfl evs.nil)) (c_cmp_Compare p.2.2 q.2.2))
    | 15, h_ => cases h_; exact Ob.f rfl .n fun N => (O.bs Try.underlying76 el3_int (evl.l rfl (i64_int (by omega)) (evl.l rfl (i64_int (by omega)) (evl.l rfl (i64_int (by omega)) evl.n))) rfl (by decide))
    | 16, h_ => cases h_; exact Ob.f rfl .n fun N => (O.fn fn25 (evs.c rfl evs.nil) (c_cmp_Or [(p.1 - q.1).sign, (p.2.1 - q.2.1).sign, (p.2.2 - q.2.2).sign]))
    | n_ + 17, h_ => simp at h_
  refine WP.s .n (O.asg rfl) ?_
  refine WP.nil ?_
  refine QE.next ?_
  refine CW.ret ?_
  refine ST.told 4 rfl (is_eq (y := (cmpT p q)) (cmpT_or p q)) ?_
  exact QE.done (.inl rfl) rfl (ResOk.t rfl ResOk.nil) (OImp.sub (List.nil_sublist _)) ⟨rfl, rfl⟩

set_option maxRecDepth 20000 in
set_option maxHeartbeats 1000000 in
theorem c_sl_order2 (xs : List T3) (hr : rise xs) (a b : Nat) (v : Value) (hab : a < b) (hb : b < xs.length) : Fn Try.prog 77 [(kSl (kPair kI64 (kPair kI64 kI64))).is xs, (kInt .i64).is (a : Int), (kInt .i64).is (b : Int), VP.ex v, VP.ex (.func (.func 24) #[] #[])] (VP.tup [(kInt .i64).is (a : Int), (kInt .i64).is (b : Int)]) := by
  refine Con.enter Try.func77 rfl rfl fun m w => ?_
  refine ST.fact (i := 0) rfl sl_len fun hB => ?_
  refine CW.seq ?_
  refine CW.region ?_
  refine WP.s .n (O.asg rfl) ?_
  refine WP.s .n (O.asg rfl) ?_
  refine WP.nil ?_
  refine QE.next ?_
  refine CW.seq ?_
  refine CW.seq ?_
  refine CW.draw (Γ := [.fr (VP.ex (.func (.func 24) #[] #[])), .fr ((kSl (kPair kI64 (kPair kI64 kI64))).is xs), .fr ((kInt .i64).is (b : Int)), .fr (VP.pim (kPair kI64 (kPair kI64 kI64)) (xs.getD b (0, (0, 0)))), .fr ((kPair kI64 (kPair kI64 kI64)).is (xs.getD b (0, (0, 0)))), .fr ((kSl (kPair kI64 (kPair kI64 kI64))).is xs), .fr ((kInt .i64).is (a : Int)), .fr (VP.pim (kPair kI64 (kPair kI64 kI64)) (xs.getD a (0, (0, 0)))), .fr ((kPair kI64 (kPair kI64 kI64)).is (xs.getD a (0, (0, 0)))), .fr ((kInt .i64).is (cmpT (xs.getD b (0, (0, 0))) (xs.getD a (0, (0, 0))))), .fr (kBool.is (decide ((cmpT (xs.getD b (0, (0, 0))) (xs.getD a (0, (0, 0)))) < 0)))]) (lates := [false, false, false, false, false, false, false, false, false, false, false]) (by kernel_rfl) (Chk.of rfl (by kernel_rfl) rfl) (fun _ _ _ _ _ h => h) (fun q_ x_ h_ => ?_) (fun σ1 => ?_)
  · match q_, h_ with
    | 0, h_ => cases h_; exact Ob.f rfl .n fun N => (O.mv rfl)
    | 1, h_ => cases h_; exact Ob.f rfl .n fun N => (O.mv rfl)
    | 2, h_ => cases h_; exact Ob.f rfl .n fun N => (O.mv rfl)
    | 3, h_ => cases h_; exact Ob.f rfl .n fun N => (O.ix b rfl rfl Try.underlying54 ty56 rfl (v := (xs.getD b (0, (0, 0)))) (gd (0, (0, 0)) (by omega)))
    | 4, h_ => cases h_; exact Ob.f rfl .n fun N => (O.ldP rfl ty56)
    | 5, h_ => cases h_; exact Ob.f rfl .n fun N => (O.mv rfl)
    | 6, h_ => cases h_; exact Ob.f rfl .n fun N => (O.mv rfl)
    | 7, h_ => cases h_; exact Ob.f rfl .n fun N => (O.ix a rfl rfl Try.underlying54 ty56 rfl (v := (xs.getD a (0, (0, 0)))) (gd (0, (0, 0)) (by omega)))
    | 8, h_ => cases h_; exact Ob.f rfl .n fun N => (O.ldP rfl ty56)
    | 9, h_ => cases h_; exact Ob.f rfl .n fun N => (O.fv rfl fn24 (evs.c rfl (evs.c rfl evs.nil)) (c_quad_Classes1 (xs.getD b (0, (0, 0))) (xs.getD a (0, (0, 0)))))
    | 10, h_ => cases h_; exact Ob.f rfl .n fun N => (O.lt rfl rfl)
    | n_ + 11, h_ => simp at h_
  refine WP.nil ?_
  refine QE.next ?_
  refine CW.condD rfl (fun h => absurd h (rise_cmp hr hab hb)) (fun h_t22 => ?_)
  refine CW.skip ?_
  refine QE.next ?_
  refine CW.seq ?_
  refine CW.region ?_
  refine WP.s .n (O.mv rfl) ?_
  refine WP.s .n (O.mv rfl) ?_
  refine WP.s .n (O.asg rfl) ?_
  refine WP.s .n (O.asg rfl) ?_
  refine WP.nil ?_
  refine QE.next ?_
  refine CW.ret ?_
  exact QE.done (.inl rfl) rfl (ResOk.t rfl (ResOk.t rfl ResOk.nil)) (OImp.sub (List.nil_sublist _)) ⟨rfl, rfl⟩

set_option maxRecDepth 20000 in
set_option maxHeartbeats 1000000 in
theorem c_sl_median (xs : List T3) (hr : rise xs) (a b c : Nat) (v : Value) (hab : a < b) (hbc : b < c) (hc : c < xs.length) : Fn Try.prog 75 [(kSl (kPair kI64 (kPair kI64 kI64))).is xs, (kInt .i64).is (a : Int), (kInt .i64).is (b : Int), (kInt .i64).is (c : Int), VP.ex v, VP.ex (.func (.func 24) #[] #[])] ((kInt .i64).is (b : Int)) := by
  refine Con.enter Try.func75 rfl rfl fun m w => ?_
  refine CW.seq ?_
  refine CW.region ?_
  refine WP.s .n (O.asg rfl) ?_
  refine WP.nil ?_
  refine QE.next ?_
  refine CW.seq ?_
  refine CW.region ?_
  refine WP.s .n (O.mv rfl) ?_
  refine WP.s .n (O.mv rfl) ?_
  refine WP.s .n (O.mv rfl) ?_
  refine WP.s .n (O.mv rfl) ?_
  refine WP.s .n (O.mv rfl) ?_
  refine WP.s .n (O.fn fn77 (evs.c rfl (evs.c rfl (evs.c rfl (evs.c rfl (evs.c rfl evs.nil))))) (c_sl_order2 xs (by first | assumption | omega) a b v (by first | assumption | omega) (by first | assumption | omega))) ?_
  refine WP.s .n (O.mv rfl) ?_
  refine WP.s .n (O.ext rfl rfl) ?_
  refine WP.s .n (O.ext rfl rfl) ?_
  refine WP.s .n (O.asg rfl) ?_
  refine WP.s .n (O.asg rfl) ?_
  refine WP.nil ?_
  refine QE.next ?_
  refine CW.seq ?_
  refine CW.region ?_
  refine WP.s .n (O.mv rfl) ?_
  refine WP.s .n (O.mv rfl) ?_
  refine WP.s .n (O.mv rfl) ?_
  refine WP.s .n (O.mv rfl) ?_
  refine WP.s .n (O.mv rfl) ?_
  refine WP.s .n (O.fn fn77 (evs.c rfl (evs.c rfl (evs.c rfl (evs.c rfl (evs.c rfl evs.nil))))) (c_sl_order2 xs (by first | assumption | omega) b c v (by first | assumption | omega) (by first | assumption | omega))) ?_
  refine WP.s .n (O.mv rfl) ?_
  refine WP.s .n (O.ext rfl rfl) ?_
  refine WP.s .n (O.ext rfl rfl) ?_
  refine WP.s .n (O.asg rfl) ?_
  refine WP.s .n (O.asg rfl) ?_
  refine WP.nil ?_
  refine QE.next ?_
  refine CW.seq ?_
  refine CW.region ?_
  refine WP.s .n (O.mv rfl) ?_
  refine WP.s .n (O.mv rfl) ?_
  refine WP.s .n (O.mv rfl) ?_
  refine WP.s .n (O.mv rfl) ?_
  refine WP.s .n (O.mv rfl) ?_
  refine WP.s .n (O.fn fn77 (evs.c rfl (evs.c rfl (evs.c rfl (evs.c rfl (evs.c rfl evs.nil))))) (c_sl_order2 xs (by first | assumption | omega) a b v (by first | assumption | omega) (by first | assumption | omega))) ?_
  refine WP.s .n (O.mv rfl) ?_
  refine WP.s .n (O.ext rfl rfl) ?_
  refine WP.s .n (O.ext rfl rfl) ?_
  refine WP.s .n (O.asg rfl) ?_
  refine WP.s .n (O.asg rfl) ?_
  refine WP.nil ?_
  refine QE.next ?_
  refine CW.seq ?_
  refine CW.region ?_
  refine WP.s .n (O.mv rfl) ?_
  refine WP.s .n (O.asg rfl) ?_
  refine WP.nil ?_
  refine QE.next ?_
  refine CW.ret ?_
  exact QE.done (.inl rfl) rfl (ResOk.t rfl ResOk.nil) (OImp.sub (List.nil_sublist _)) ⟨rfl, rfl⟩

set_option maxRecDepth 20000 in
set_option maxHeartbeats 1000000 in
theorem c_sl_medianAdj (xs : List T3) (hr : rise xs) (a : Nat) (v : Value) (ha : 1 ≤ a) (hb : a + 1 < xs.length) : Fn Try.prog 74 [(kSl (kPair kI64 (kPair kI64 kI64))).is xs, (kInt .i64).is (a : Int), VP.ex v, VP.ex (.func (.func 24) #[] #[])] ((kInt .i64).is (a : Int)) := by
  refine Con.enter Try.func74 rfl rfl fun m w => ?_
  refine ST.fact (i := 0) rfl sl_len fun hB => ?_
  refine CW.seq ?_
  refine CW.region ?_
  refine WP.s .n (O.asg rfl) ?_
  refine WP.nil ?_
  refine QE.next ?_
  refine CW.seq ?_
  refine CW.region ?_
  refine WP.s .n (O.mv rfl) ?_
  refine WP.s .n (O.mv rfl) ?_
  refine WP.s .n (O.sub rfl rfl (c := ((a : Int) - 1)) (w64 (by omega))) ?_
  refine WP.s .n (O.mv rfl) ?_
  refine WP.s .n (O.mv rfl) ?_
  refine WP.s .n (O.add rfl rfl (c := ((a : Int) + 1)) (w64 (by omega))) ?_
  refine WP.s .n (O.mv rfl) ?_
  refine WP.s .n (O.mv rfl) ?_
  refine WP.s .n (O.fn fn75 (evs.c rfl (evs.l rfl (is_eq (y := (((a - 1) : Nat) : Int)) (by first | rfl | omega)) (evs.c rfl (evs.l rfl (is_eq (y := (((a + 1) : Nat) : Int)) (by first | rfl | omega)) (evs.c rfl (evs.c rfl evs.nil)))))) (c_sl_median xs (by first | assumption | omega) (a - 1) a (a + 1) v (by first | assumption | omega) (by first | assumption | omega) (by first | assumption | omega))) ?_
  refine WP.s .n (O.asg rfl) ?_
  refine WP.nil ?_
  refine QE.next ?_
  refine CW.ret ?_
  exact QE.done (.inl rfl) rfl (ResOk.t rfl ResOk.nil) (OImp.sub (List.nil_sublist _)) ⟨rfl, rfl⟩

set_option maxRecDepth 20000 in
set_option maxHeartbeats 1000000 in
theorem c_sl_pivot (xs : List T3) (hr : rise xs) (h13 : 13 ≤ xs.length) : Fn Try.prog 54 [(kSl (kPair kI64 (kPair kI64 kI64))).is xs, (kInt .i64).is 0, (kInt .i64).is (xs.length : Int), VP.ex (.func (.func 24) #[] #[])] (VP.tup [(kInt .i64).is ((xs.length / 4 * 2 : Nat) : Int), (kInt .i64).is 1]) := by
  refine Con.enter Try.func54 rfl rfl fun m w => ?_
  refine ST.fact (i := 0) rfl sl_len fun hB => ?_
  refine CW.seq ?_
  refine CW.region ?_
  refine WP.s .n (O.asg rfl) ?_
  refine WP.s .n (O.asg rfl) ?_
  refine WP.nil ?_
  refine QE.next ?_
  refine CW.seq ?_
  refine CW.region ?_
  refine WP.s .n (O.mv rfl) ?_
  refine WP.s .n (O.mv rfl) ?_
  refine WP.s .n (O.sub rfl rfl (c := ((xs.length : Int) - 0)) (w64 (by omega))) ?_
  refine WP.s .n (O.asg rfl) ?_
  refine WP.nil ?_
  refine QE.next ?_
  refine CW.seq ?_
  refine CW.region ?_
  refine WP.al .n z3_i64 fun b1 => ?_
  refine WP.nil ?_
  refine QE.next ?_
  refine CW.seq ?_
  refine CW.region ?_
  refine WP.s .n (O.mv rfl) ?_
  refine WP.s .n (O.mv rfl) ?_
  refine WP.s .n (O.quo rfl rfl (by omega) (c := ((xs.length / 4 : Nat) : Int)) (quo4 (by omega))) ?_
  refine WP.s .n (O.mul rfl rfl (c := (((xs.length / 4 : Nat) : Int) * 1)) (w64 (by omega))) ?_
  refine WP.s .n (O.add rfl rfl (c := (0 + (((xs.length / 4 : Nat) : Int) * 1))) (w64 (by omega))) ?_
  refine WP.s .n (O.asg rfl) ?_
  refine WP.nil ?_
  refine QE.next ?_
  refine CW.seq ?_
  refine CW.region ?_
  refine WP.s .n (O.mv rfl) ?_
  refine WP.s .n (O.mv rfl) ?_
  refine WP.s .n (O.quo rfl rfl (by omega) (c := ((xs.length / 4 : Nat) : Int)) (quo4 (by omega))) ?_
  refine WP.s .n (O.mul rfl rfl (c := (((xs.length / 4 : Nat) : Int) * 2)) (w64 (by omega))) ?_
  refine WP.s .n (O.add rfl rfl (c := (0 + (((xs.length / 4 : Nat) : Int) * 2))) (w64 (by omega))) ?_
  refine WP.s .n (O.asg rfl) ?_
  refine WP.nil ?_
  refine QE.next ?_
  refine CW.seq ?_
  refine CW.region ?_
  refine WP.s .n (O.mv rfl) ?_
  refine WP.s .n (O.mv rfl) ?_
  refine WP.s .n (O.quo rfl rfl (by omega) (c := ((xs.length / 4 : Nat) : Int)) (quo4 (by omega))) ?_
  refine WP.s .n (O.mul rfl rfl (c := (((xs.length / 4 : Nat) : Int) * 3)) (w64 (by omega))) ?_
  refine WP.s .n (O.add rfl rfl (c := (0 + (((xs.length / 4 : Nat) : Int) * 3))) (w64 (by omega))) ?_
  refine WP.s .n (O.asg rfl) ?_
  refine WP.nil ?_
  refine QE.next ?_
  refine CW.seq ?_
  refine CW.seq ?_
  refine CW.region ?_
  refine WP.s .n (O.mv rfl) ?_
  refine WP.s .n (O.ge rfl rfl) ?_
  refine WP.nil ?_
  refine QE.next ?_
  refine CW.condD rfl (fun h_t34 => ?_) (fun h => absurd (by omega) h)
  refine CW.seq ?_
  refine CW.seq ?_
  refine CW.region ?_
  refine WP.s .n (O.mv rfl) ?_
  refine WP.s .n (O.ge rfl rfl) ?_
  refine WP.nil ?_
  refine QE.next ?_
  refine CW.condD rfl (fun h_t36 => ?_) (fun h_t36 => ?_)
  · refine CW.seq ?_
    refine CW.region ?_
    refine WP.s .n (O.mv rfl) ?_
    refine WP.s .n (O.mv rfl) ?_
    refine WP.s .n (O.mv rfl) ?_
    refine WP.s .n (O.fn fn74 (evs.c rfl (evs.l rfl (is_eq (y := (((xs.length / 4) : Nat) : Int)) (by first | rfl | omega)) (evs.c rfl (evs.c rfl evs.nil)))) (c_sl_medianAdj xs (by first | assumption | omega) (xs.length / 4) (.pointer (some ⟨b1, 0, none⟩)) (by first | assumption | omega) (by first | assumption | omega))) ?_
    refine WP.s .n (O.asg rfl) ?_
    refine WP.nil ?_
    refine QE.next ?_
    refine CW.seq ?_
    refine CW.region ?_
    refine WP.s .n (O.mv rfl) ?_
    refine WP.s .n (O.mv rfl) ?_
    refine WP.s .n (O.mv rfl) ?_
    refine WP.s .n (O.fn fn74 (evs.c rfl (evs.l rfl (is_eq (y := (((xs.length / 4 * 2) : Nat) : Int)) (by first | rfl | omega)) (evs.c rfl (evs.c rfl evs.nil)))) (c_sl_medianAdj xs (by first | assumption | omega) (xs.length / 4 * 2) (.pointer (some ⟨b1, 0, none⟩)) (by first | assumption | omega) (by first | assumption | omega))) ?_
    refine WP.s .n (O.asg rfl) ?_
    refine WP.nil ?_
    refine QE.next ?_
    refine CW.region ?_
    refine WP.s .n (O.mv rfl) ?_
    refine WP.s .n (O.mv rfl) ?_
    refine WP.s .n (O.mv rfl) ?_
    refine WP.s .n (O.fn fn74 (evs.c rfl (evs.l rfl (is_eq (y := (((xs.length / 4 * 3) : Nat) : Int)) (by first | rfl | omega)) (evs.c rfl (evs.c rfl evs.nil)))) (c_sl_medianAdj xs (by first | assumption | omega) (xs.length / 4 * 3) (.pointer (some ⟨b1, 0, none⟩)) (by first | assumption | omega) (by first | assumption | omega))) ?_
    refine WP.s .n (O.asg rfl) ?_
    refine WP.nil ?_
    refine QE.next ?_
    refine CW.region ?_
    refine WP.s .n (O.mv rfl) ?_
    refine WP.s .n (O.mv rfl) ?_
    refine WP.s .n (O.mv rfl) ?_
    refine WP.s .n (O.mv rfl) ?_
    refine WP.s .n (O.mv rfl) ?_
    refine WP.s .n (O.fn fn75 (evs.c rfl (evs.c rfl (evs.c rfl (evs.c rfl (evs.c rfl (evs.c rfl evs.nil)))))) (c_sl_median xs (by first | assumption | omega) (xs.length / 4) (xs.length / 4 * 2) (xs.length / 4 * 3) (.pointer (some ⟨b1, 0, none⟩)) (by first | assumption | omega) (by first | assumption | omega) (by first | assumption | omega))) ?_
    refine WP.s .n (O.asg rfl) ?_
    refine WP.nil ?_
    refine QE.next ?_
    refine CW.seq ?_
    refine CW.region ?_
    refine WP.s .n (O.ld rfl (mem_at 0 rfl) (Lens.id _) ty3 rfl) ?_
    refine WP.nil ?_
    refine QE.next ?_
    refine CW.block ?_
    refine CW.seq ?_
    refine CW.region ?_
    refine WP.s .n (O.eq rfl rfl) ?_
    refine WP.s .n (O.asg rfl) ?_
    refine WP.nil ?_
    refine QE.next ?_
    refine CW.condD rfl (fun h_t57 => ?_) (fun h => absurd rfl h)
    refine CW.seq ?_
    refine CW.region ?_
    refine WP.s .n (O.mv rfl) ?_
    refine WP.s .n (O.asg rfl) ?_
    refine WP.s .n (O.asg rfl) ?_
    refine WP.nil ?_
    refine QE.next ?_
    refine CW.ret ?_
    refine QE.blkR ?_
    exact QE.done (.inl rfl) rfl (ResOk.tl rfl (is_eq (y := ((xs.length / 4 * 2 : Nat) : Int)) (by first | rfl | omega)) (ResOk.t rfl ResOk.nil)) (OImp.sub (List.nil_sublist _)) ⟨rfl, rfl⟩
  · refine CW.skip ?_
    refine QE.next ?_
    refine CW.region ?_
    refine WP.s .n (O.mv rfl) ?_
    refine WP.s .n (O.mv rfl) ?_
    refine WP.s .n (O.mv rfl) ?_
    refine WP.s .n (O.mv rfl) ?_
    refine WP.s .n (O.mv rfl) ?_
    refine WP.s .n (O.fn fn75 (evs.c rfl (evs.l rfl (is_eq (y := (((xs.length / 4) : Nat) : Int)) (by first | rfl | omega)) (evs.l rfl (is_eq (y := (((xs.length / 4 * 2) : Nat) : Int)) (by first | rfl | omega)) (evs.l rfl (is_eq (y := (((xs.length / 4 * 3) : Nat) : Int)) (by first | rfl | omega)) (evs.c rfl (evs.c rfl evs.nil)))))) (c_sl_median xs (by first | assumption | omega) (xs.length / 4) (xs.length / 4 * 2) (xs.length / 4 * 3) (.pointer (some ⟨b1, 0, none⟩)) (by first | assumption | omega) (by first | assumption | omega) (by first | assumption | omega))) ?_
    refine WP.s .n (O.asg rfl) ?_
    refine WP.nil ?_
    refine QE.next ?_
    refine CW.seq ?_
    refine CW.region ?_
    refine WP.s .n (O.ld rfl (mem_at 0 rfl) (Lens.id _) ty3 rfl) ?_
    refine WP.nil ?_
    refine QE.next ?_
    refine CW.block ?_
    refine CW.seq ?_
    refine CW.region ?_
    refine WP.s .n (O.eq rfl rfl) ?_
    refine WP.s .n (O.asg rfl) ?_
    refine WP.nil ?_
    refine QE.next ?_
    refine CW.condD rfl (fun h_t57 => ?_) (fun h => absurd rfl h)
    refine CW.seq ?_
    refine CW.region ?_
    refine WP.s .n (O.mv rfl) ?_
    refine WP.s .n (O.asg rfl) ?_
    refine WP.s .n (O.asg rfl) ?_
    refine WP.nil ?_
    refine QE.next ?_
    refine CW.ret ?_
    refine QE.blkR ?_
    exact QE.done (.inl rfl) rfl (ResOk.tl rfl (is_eq (y := ((xs.length / 4 * 2 : Nat) : Int)) (by first | rfl | omega)) (ResOk.t rfl ResOk.nil)) (OImp.sub (List.nil_sublist _)) ⟨rfl, rfl⟩

set_option maxRecDepth 20000 in
set_option maxHeartbeats 1000000 in
theorem c_sl_insertion (xs : List T3) (hr : rise xs) : Fn Try.prog 51 [(kSl (kPair kI64 (kPair kI64 kI64))).is xs, (kInt .i64).is 0, (kInt .i64).is (xs.length : Int), VP.ex (.func (.func 24) #[] #[])] (VP.tup []) := by
  refine Con.enter Try.func51 rfl rfl fun m w => ?_
  refine ST.fact (i := 0) rfl sl_len fun hB => ?_
  refine CW.seq ?_
  refine CW.region ?_
  refine WP.s .n (O.mv rfl) ?_
  refine WP.s .n (O.add rfl rfl (c := (0 + 1)) (w64 (by omega))) ?_
  refine WP.s .n (O.asg rfl) ?_
  refine WP.nil ?_
  refine QE.next ?_
  refine CW.block ?_
  refine CW.loop (fun (i : Nat) => 1 ≤ i) (fun (i : Nat) => [(0, (kSl (kPair kI64 (kPair kI64 kI64))).is xs), (1, (kInt .i64).is 0), (2, (kInt .i64).is (xs.length : Int)), (3, VP.ex (.func (.func 24) #[] #[])), (8, (kInt .i64).is (i : Int))]) (fun (i : Nat) => []) (fun (i : Nat) => xs.length - i) 1 (by omega) (Imp.cons rfl (Imp.cons rfl (Imp.cons rfl (Imp.cons rfl (Imp.consLe rfl (is_eq (y := (1 : Int)) (by first | rfl | omega)) Imp.nil))))) (OImp.refl _) ?_
  intro i hi
  refine CW.seq ?_
  refine CW.seq ?_
  refine CW.region ?_
  refine WP.s .n (O.mv rfl) ?_
  refine WP.s .n (O.mv rfl) ?_
  refine WP.s .n (O.lt rfl rfl) ?_
  refine WP.nil ?_
  refine QE.next ?_
  refine CW.condD rfl (fun h_t14 => ?_) (fun h_t14 => ?_)
  · refine CW.skip ?_
    refine QE.next ?_
    refine CW.seq ?_
    refine CW.block ?_
    refine CW.seq ?_
    refine CW.region ?_
    refine WP.s .n (O.mv rfl) ?_
    refine WP.s .n (O.asg rfl) ?_
    refine WP.nil ?_
    refine QE.next ?_
    refine CW.block ?_
    refine CW.loop (fun (z : Nat) => True) (fun (z : Nat) => [(0, (kSl (kPair kI64 (kPair kI64 kI64))).is xs), (1, (kInt .i64).is 0), (2, (kInt .i64).is (xs.length : Int)), (3, VP.ex (.func (.func 24) #[] #[])), (8, (kInt .i64).is (i : Int)), (9, (kInt .i64).is (i : Int))]) (fun (z : Nat) => []) (fun (z : Nat) => 0) 0 trivial (Imp.cons rfl (Imp.cons rfl (Imp.cons rfl (Imp.cons rfl (Imp.cons rfl (Imp.cons rfl Imp.nil)))))) (OImp.refl _) ?_
    intro z _hz
    refine CW.seq ?_
    refine CW.seq ?_
    refine CW.draw (Γ := [.fr ((kInt .i64).is (i : Int)), .fr ((kInt .i64).is 0), .fr (kBool.is true), .fr (kBool.is true), .fr (VP.ex (.func (.func 24) #[] #[])), .fr ((kSl (kPair kI64 (kPair kI64 kI64))).is xs), .fr ((kInt .i64).is (i : Int)), .fr (VP.pim (kPair kI64 (kPair kI64 kI64)) (xs.getD i (0, (0, 0)))), .fr ((kPair kI64 (kPair kI64 kI64)).is (xs.getD i (0, (0, 0)))), .fr ((kSl (kPair kI64 (kPair kI64 kI64))).is xs), .fr ((kInt .i64).is (i : Int)), .fr ((kInt .i64).is ((i : Int) - 1)), .fr (VP.pim (kPair kI64 (kPair kI64 kI64)) (xs.getD (i - 1) (0, (0, 0)))), .fr ((kPair kI64 (kPair kI64 kI64)).is (xs.getD (i - 1) (0, (0, 0)))), .fr ((kInt .i64).is (cmpT (xs.getD i (0, (0, 0))) (xs.getD (i - 1) (0, (0, 0))))), .fr (kBool.is false), .fr (kBool.is false)]) (lates := [false, false, false, false, false, false, false, false, false, false, false, false, false, false, false, false, false]) (by kernel_rfl) (Chk.of rfl (by kernel_rfl) rfl) (fun _ _ _ _ _ h => h) (fun q_ x_ h_ => ?_) (fun σ1 => ?_)
    · match q_, h_ with
      | 0, h_ => cases h_; exact Ob.f rfl .n fun N => (O.mv rfl)
      | 1, h_ => cases h_; exact Ob.f rfl .n fun N => (O.mv rfl)
      | 2, h_ => cases h_; exact Ob.f rfl .n fun N => (OpOk.le (O.gt rfl rfl) (is_eq (decide_eq_true (by omega))))
      | 3, h_ => cases h_; exact Ob.f rfl .n fun N => (O.mv rfl)
      | 4, h_ => cases h_; exact Ob.f rfl (.g rfl rfl) fun N => (O.mv rfl)
      | 5, h_ => cases h_; exact Ob.f rfl (.g rfl rfl) fun N => (O.mv rfl)
      | 6, h_ => cases h_; exact Ob.f rfl (.g rfl rfl) fun N => (O.mv rfl)
      | 7, h_ => cases h_; exact Ob.f rfl (.g rfl rfl) fun N => (O.ix i rfl rfl Try.underlying54 ty56 rfl (v := (xs.getD i (0, (0, 0)))) (gd (0, (0, 0)) (by omega)))
      | 8, h_ => cases h_; exact Ob.f rfl (.g rfl rfl) fun N => (O.ldP rfl ty56)
      | 9, h_ => cases h_; exact Ob.f rfl (.g rfl rfl) fun N => (O.mv rfl)
      | 10, h_ => cases h_; exact Ob.f rfl (.g rfl rfl) fun N => (O.mv rfl)
      | 11, h_ => cases h_; exact Ob.f rfl (.g rfl rfl) fun N => (O.sub rfl rfl (c := ((i : Int) - 1)) (w64 (by omega)))
      | 12, h_ => cases h_; exact Ob.f rfl (.g rfl rfl) fun N => (O.ix (i - 1) rfl rfl Try.underlying54 ty56 (by omega) (v := (xs.getD (i - 1) (0, (0, 0)))) (gd (0, (0, 0)) (by omega)))
      | 13, h_ => cases h_; exact Ob.f rfl (.g rfl rfl) fun N => (O.ldP rfl ty56)
      | 14, h_ => cases h_; exact Ob.f rfl (.g rfl rfl) fun N => (O.fv rfl fn24 (evs.c rfl (evs.c rfl evs.nil)) (c_quad_Classes1 (xs.getD i (0, (0, 0))) (xs.getD (i - 1) (0, (0, 0)))))
      | 15, h_ => cases h_; exact Ob.f rfl (.g rfl rfl) fun N => (OpOk.le (O.lt rfl rfl) (is_eq (decide_eq_false (rise_cmp hr (by omega) (by omega)))))
      | 16, h_ => cases h_; exact Ob.f rfl .n fun N => (O.pickT rfl rfl)
      | n_ + 17, h_ => simp at h_
    refine WP.nil ?_
    refine QE.next ?_
    refine CW.condF rfl ?_
    refine CW.exit ?_
    refine QE.thenE ?_
    refine QE.thenE ?_
    refine QE.blkH ?_
    refine QE.blkN ?_
    refine QE.next ?_
    refine CW.region ?_
    refine WP.s .n (O.mv rfl) ?_
    refine WP.s .n (O.add rfl rfl (c := ((i : Int) + 1)) (w64 (by omega))) ?_
    refine WP.s .n (O.asg rfl) ?_
    refine WP.nil ?_
    exact QE.round (i + 1) (by omega) (by omega) (Imp.cons rfl (Imp.cons rfl (Imp.cons rfl (Imp.cons rfl (Imp.consLe rfl (is_eq (y := (((i + 1) : Nat) : Int)) (by first | rfl | omega)) Imp.nil))))) (OImp.refl _)
  · refine CW.exit ?_
    refine QE.thenE ?_
    refine QE.thenE ?_
    refine QE.blkH ?_
    exact QE.done (.inr rfl) rfl ResOk.nil (OImp.sub (List.nil_sublist _)) ⟨rfl, rfl⟩

set_option maxRecDepth 20000 in
set_option maxHeartbeats 1000000 in
theorem c_sl_partial (xs : List T3) (hr : rise xs) (h1 : 1 ≤ xs.length) : Fn Try.prog 56 [(kSl (kPair kI64 (kPair kI64 kI64))).is xs, (kInt .i64).is 0, (kInt .i64).is (xs.length : Int), VP.ex (.func (.func 24) #[] #[])] (kBool.is true) := by
  refine Con.enter Try.func56 rfl rfl fun m w => ?_
  refine ST.fact (i := 0) rfl sl_len fun hB => ?_
  refine CW.seq ?_
  refine CW.region ?_
  refine WP.s .n (O.asg rfl) ?_
  refine WP.nil ?_
  refine QE.next ?_
  refine CW.seq ?_
  refine CW.region ?_
  refine WP.s .n (O.mv rfl) ?_
  refine WP.s .n (O.add rfl rfl (c := (0 + 1)) (w64 (by omega))) ?_
  refine WP.s .n (O.asg rfl) ?_
  refine WP.nil ?_
  refine QE.next ?_
  refine CW.seq ?_
  refine CW.seq ?_
  refine CW.region ?_
  refine WP.s .n (O.asg rfl) ?_
  refine WP.nil ?_
  refine QE.next ?_
  refine CW.block ?_
  refine CW.loop (fun (z : Nat) => True) (fun (z : Nat) => [(0, (kSl (kPair kI64 (kPair kI64 kI64))).is xs), (1, (kInt .i64).is 0), (2, (kInt .i64).is (xs.length : Int)), (3, VP.ex (.func (.func 24) #[] #[])), (9, (kInt .i64).is 1), (10, (kInt .i64).is 0)]) (fun (z : Nat) => []) (fun (z : Nat) => 0) 0 trivial (Imp.cons rfl (Imp.cons rfl (Imp.cons rfl (Imp.cons rfl (Imp.consLe rfl (is_eq (y := 1) (by first | rfl | omega)) (Imp.cons rfl Imp.nil)))))) (OImp.refl _) ?_
  intro z _hz
  refine CW.seq ?_
  refine CW.seq ?_
  refine CW.region ?_
  refine WP.s .n (O.mv rfl) ?_
  refine WP.s .n (O.lt rfl rfl) ?_
  refine WP.nil ?_
  refine QE.next ?_
  refine CW.condD rfl (fun h_t16 => ?_) (fun h => absurd (by decide) h)
  refine CW.skip ?_
  refine QE.next ?_
  refine CW.seq ?_
  refine CW.block ?_
  refine CW.seq ?_
  refine CW.block ?_
  refine CW.loop (fun (i : Nat) => 1 ≤ i ∧ i ≤ xs.length) (fun (i : Nat) => [(0, (kSl (kPair kI64 (kPair kI64 kI64))).is xs), (1, (kInt .i64).is 0), (2, (kInt .i64).is (xs.length : Int)), (3, VP.ex (.func (.func 24) #[] #[])), (9, (kInt .i64).is (i : Int)), (10, (kInt .i64).is 0)]) (fun (i : Nat) => []) (fun (i : Nat) => xs.length - i) 1 (by omega) (Imp.cons rfl (Imp.cons rfl (Imp.cons rfl (Imp.cons rfl (Imp.consLe rfl (is_eq (y := (1 : Int)) (by first | rfl | omega)) (Imp.cons rfl Imp.nil)))))) (OImp.refl _) ?_
  intro i ⟨hi, hin⟩
  refine CW.seq ?_
  refine CW.seq ?_
  by_cases hlt : i < xs.length
  · refine CW.draw (Γ := [.fr ((kInt .i64).is (i : Int)), .fr ((kInt .i64).is (xs.length : Int)), .fr (kBool.is true), .fr (kBool.is true), .fr (VP.ex (.func (.func 24) #[] #[])), .fr ((kSl (kPair kI64 (kPair kI64 kI64))).is xs), .fr ((kInt .i64).is (i : Int)), .fr (VP.pim (kPair kI64 (kPair kI64 kI64)) (xs.getD i (0, (0, 0)))), .fr ((kPair kI64 (kPair kI64 kI64)).is (xs.getD i (0, (0, 0)))), .fr ((kSl (kPair kI64 (kPair kI64 kI64))).is xs), .fr ((kInt .i64).is (i : Int)), .fr ((kInt .i64).is ((i : Int) - 1)), .fr (VP.pim (kPair kI64 (kPair kI64 kI64)) (xs.getD (i - 1) (0, (0, 0)))), .fr ((kPair kI64 (kPair kI64 kI64)).is (xs.getD (i - 1) (0, (0, 0)))), .fr ((kInt .i64).is (cmpT (xs.getD i (0, (0, 0))) (xs.getD (i - 1) (0, (0, 0))))), .fr (kBool.is false), .fr (kBool.is true), .fr (kBool.is true)]) (lates := [false, false, false, false, false, false, false, false, false, false, false, false, false, false, false, false, false, false]) (by kernel_rfl) (Chk.of rfl (by kernel_rfl) rfl) (fun _ _ _ _ _ h => h) (fun q_ x_ h_ => ?_) (fun σ1 => ?_)
    · match q_, h_ with
      | 0, h_ => cases h_; exact Ob.f rfl .n fun N => (O.mv rfl)
      | 1, h_ => cases h_; exact Ob.f rfl .n fun N => (O.mv rfl)
      | 2, h_ => cases h_; exact Ob.f rfl .n fun N => (OpOk.le (O.lt rfl rfl) (is_eq (decide_eq_true (by omega))))
      | 3, h_ => cases h_; exact Ob.f rfl .n fun N => (O.mv rfl)
      | 4, h_ => cases h_; exact Ob.f rfl (.g rfl rfl) fun N => (O.mv rfl)
      | 5, h_ => cases h_; exact Ob.f rfl (.g rfl rfl) fun N => (O.mv rfl)
      | 6, h_ => cases h_; exact Ob.f rfl (.g rfl rfl) fun N => (O.mv rfl)
      | 7, h_ => cases h_; exact Ob.f rfl (.g rfl rfl) fun N => (O.ix i rfl rfl Try.underlying54 ty56 rfl (v := (xs.getD i (0, (0, 0)))) (gd (0, (0, 0)) (by omega)))
      | 8, h_ => cases h_; exact Ob.f rfl (.g rfl rfl) fun N => (O.ldP rfl ty56)
      | 9, h_ => cases h_; exact Ob.f rfl (.g rfl rfl) fun N => (O.mv rfl)
      | 10, h_ => cases h_; exact Ob.f rfl (.g rfl rfl) fun N => (O.mv rfl)
      | 11, h_ => cases h_; exact Ob.f rfl (.g rfl rfl) fun N => (O.sub rfl rfl (c := ((i : Int) - 1)) (w64 (by omega)))
      | 12, h_ => cases h_; exact Ob.f rfl (.g rfl rfl) fun N => (O.ix (i - 1) rfl rfl Try.underlying54 ty56 (by omega) (v := (xs.getD (i - 1) (0, (0, 0)))) (gd (0, (0, 0)) (by omega)))
      | 13, h_ => cases h_; exact Ob.f rfl (.g rfl rfl) fun N => (O.ldP rfl ty56)
      | 14, h_ => cases h_; exact Ob.f rfl (.g rfl rfl) fun N => (O.fv rfl fn24 (evs.c rfl (evs.c rfl evs.nil)) (c_quad_Classes1 (xs.getD i (0, (0, 0))) (xs.getD (i - 1) (0, (0, 0)))))
      | 15, h_ => cases h_; exact Ob.f rfl (.g rfl rfl) fun N => (OpOk.le (O.lt rfl rfl) (is_eq (decide_eq_false (rise_cmp hr (by omega) (by omega)))))
      | 16, h_ => cases h_; exact Ob.f rfl (.g rfl rfl) fun N => (O.not (a := false) rfl)
      | 17, h_ => cases h_; exact Ob.f rfl .n fun N => (O.pickT rfl rfl)
      | n_ + 18, h_ => simp at h_
    refine WP.nil ?_
    refine QE.next ?_
    refine CW.condT rfl ?_
    refine CW.skip ?_
    refine QE.next ?_
    refine CW.block ?_
    refine CW.region ?_
    refine WP.s .n (O.mv rfl) ?_
    refine WP.s .n (O.add rfl rfl (c := ((i : Int) + 1)) (w64 (by omega))) ?_
    refine WP.s .n (O.asg rfl) ?_
    refine WP.nil ?_
    refine QE.blkN ?_
    exact QE.round (i + 1) (by omega) (by omega) (Imp.cons rfl (Imp.cons rfl (Imp.cons rfl (Imp.cons rfl (Imp.consLe rfl (is_eq (y := (((i + 1) : Nat) : Int)) (by first | rfl | omega)) (Imp.cons rfl Imp.nil)))))) (OImp.refl _)
  · refine CW.draw (Γ := [.fr ((kInt .i64).is (i : Int)), .fr ((kInt .i64).is (xs.length : Int)), .fr (kBool.is false), .fr (kBool.is false), .fr (VP.ex undef), .fr (VP.ex undef), .fr (VP.ex undef), .fr (VP.ex undef), .fr (VP.ex undef), .fr (VP.ex undef), .fr (VP.ex undef), .fr (VP.ex undef), .fr (VP.ex undef), .fr (VP.ex undef), .fr (VP.ex undef), .fr (VP.ex undef), .fr (VP.ex undef), .fr (kBool.is false)]) (lates := [false, false, false, false, false, false, false, false, false, false, false, false, false, false, false, false, false, false]) (by kernel_rfl) (Chk.of rfl (by kernel_rfl) rfl) (fun _ _ _ _ _ h => h) (fun q_ x_ h_ => ?_) (fun σ2 => ?_)
    · match q_, h_ with
      | 0, h_ => cases h_; exact Ob.f rfl .n fun N => (O.mv rfl)
      | 1, h_ => cases h_; exact Ob.f rfl .n fun N => (O.mv rfl)
      | 2, h_ => cases h_; exact Ob.f rfl .n fun N => (OpOk.le (O.lt rfl rfl) (is_eq (decide_eq_false (by omega))))
      | 3, h_ => cases h_; exact Ob.f rfl .n fun N => (O.mv rfl)
      | 4, h_ => cases h_; exact Ob.ku (b := false) rfl rfl rfl
      | 5, h_ => cases h_; exact Ob.ku (b := false) rfl rfl rfl
      | 6, h_ => cases h_; exact Ob.ku (b := false) rfl rfl rfl
      | 7, h_ => cases h_; exact Ob.ku (b := false) rfl rfl rfl
      | 8, h_ => cases h_; exact Ob.ku (b := false) rfl rfl rfl
      | 9, h_ => cases h_; exact Ob.ku (b := false) rfl rfl rfl
      | 10, h_ => cases h_; exact Ob.ku (b := false) rfl rfl rfl
      | 11, h_ => cases h_; exact Ob.ku (b := false) rfl rfl rfl
      | 12, h_ => cases h_; exact Ob.ku (b := false) rfl rfl rfl
      | 13, h_ => cases h_; exact Ob.ku (b := false) rfl rfl rfl
      | 14, h_ => cases h_; exact Ob.ku (b := false) rfl rfl rfl
      | 15, h_ => cases h_; exact Ob.ku (b := false) rfl rfl rfl
      | 16, h_ => cases h_; exact Ob.ku (b := false) rfl rfl rfl
      | 17, h_ => cases h_; exact Ob.f rfl .n fun N => (O.pickF rfl rfl)
      | n_ + 18, h_ => simp at h_
    refine WP.nil ?_
    refine QE.next ?_
    refine CW.condF rfl ?_
    refine CW.exit ?_
    refine QE.thenE ?_
    refine QE.thenE ?_
    refine QE.blkH ?_
    refine QE.next ?_
    refine CW.seq ?_
    refine CW.seq ?_
    refine CW.region ?_
    refine WP.s .n (O.mv rfl) ?_
    refine WP.s .n (O.mv rfl) ?_
    refine WP.s .n (O.eq rfl rfl) ?_
    refine WP.nil ?_
    refine QE.next ?_
    refine CW.condD rfl (fun h_t41 => ?_) (fun h => absurd (by omega) h)
    refine CW.seq ?_
    refine CW.region ?_
    refine WP.s .n (O.asg rfl) ?_
    refine WP.nil ?_
    refine QE.next ?_
    refine CW.ret ?_
    refine QE.thenR ?_
    refine QE.blkR ?_
    refine QE.thenR ?_
    refine QE.thenR ?_
    refine QE.blkR ?_
    refine QE.thenR ?_
    exact QE.done (.inl rfl) rfl (ResOk.t rfl ResOk.nil) (OImp.sub (List.nil_sublist _)) ⟨rfl, rfl⟩

set_option maxRecDepth 20000 in
set_option maxHeartbeats 1000000 in
theorem c_bits_Len64 (n : Nat) (hn : n < 65536) : Fn Try.prog 59 [(kInt .u64).is (n : Int)] ((kInt .i64).is (bitlen n : Int)) := by
  refine Con.enter Try.func59 rfl rfl fun m w => ?_
  have e8 := @bitlen_shift n 8
  have l0 := @bitlen_le n 8
  have l2 := @bitlen_le (n / 2 ^ 8) 8
  refine CW.seq ?_
  refine CW.region ?_
  refine WP.s .n (O.asg rfl) ?_
  refine WP.nil ?_
  refine QE.next ?_
  refine CW.seq ?_
  refine CW.seq ?_
  refine CW.region ?_
  refine WP.s .n (O.mv rfl) ?_
  refine WP.s .n (O.ge rfl rfl) ?_
  refine WP.nil ?_
  refine QE.next ?_
  refine CW.condD rfl (fun h => absurd h (by omega)) (fun h_t4 => ?_)
  refine CW.skip ?_
  refine QE.next ?_
  refine CW.seq ?_
  refine CW.seq ?_
  refine CW.region ?_
  refine WP.s .n (O.mv rfl) ?_
  refine WP.s .n (O.ge rfl rfl) ?_
  refine WP.nil ?_
  refine QE.next ?_
  refine CW.condD rfl (fun h => absurd h (by omega)) (fun h_t8 => ?_)
  refine CW.skip ?_
  refine QE.next ?_
  refine CW.seq ?_
  refine CW.seq ?_
  refine CW.region ?_
  refine WP.s .n (O.mv rfl) ?_
  refine WP.s .n (O.ge rfl rfl) ?_
  refine WP.nil ?_
  refine QE.next ?_
  refine CW.condD rfl (fun h_t14 => ?_) (fun h_t14 => ?_)
  · refine CW.seq ?_
    refine CW.region ?_
    refine WP.s .n (O.mv rfl) ?_
    refine WP.s .n (O.shr rfl rfl (by omega) (c := ((n / 2 ^ 8 : Nat) : Int)) (shrN 8 rfl rfl (by decide))) ?_
    refine WP.s .n (O.asg rfl) ?_
    refine WP.nil ?_
    refine QE.next ?_
    refine CW.region ?_
    refine WP.s .n (O.mv rfl) ?_
    refine WP.s .n (O.add rfl rfl (c := (0 + 8)) (w64 (by omega))) ?_
    refine WP.s .n (O.asg rfl) ?_
    refine WP.nil ?_
    refine QE.next ?_
    refine CW.seq ?_
    refine CW.region ?_
    refine WP.s .n (O.mv rfl) ?_
    refine WP.s .n (O.mv rfl) ?_
    refine WP.s .n (O.cvt rfl Try.underlying62 Try.underlying5 (c := ((n / 2 ^ 8 : Nat) : Int)) (wr8 (by omega))) ?_
    refine WP.s .n (O.ixS (N := 256) bitlen (n / 2 ^ 8 : Nat) rfl Try.underlying9 rfl len8 (by omega)) ?_
    refine WP.s .n (O.cvt rfl Try.underlying5 Try.underlying3 (c := (bitlen (n / 2 ^ 8 : Nat) : Int)) (w64 (by omega))) ?_
    refine WP.s .n (O.add rfl rfl (c := ((0 + 8) + (bitlen (n / 2 ^ 8 : Nat) : Int))) (w64 (by omega))) ?_
    refine WP.s .n (O.asg rfl) ?_
    refine WP.nil ?_
    refine QE.next ?_
    refine CW.ret ?_
    exact QE.done (.inl rfl) rfl (ResOk.tl rfl (is_eq (y := (bitlen n : Int)) (by first | rfl | omega)) ResOk.nil) (OImp.sub (List.nil_sublist _)) ⟨rfl, rfl⟩
  · refine CW.skip ?_
    refine QE.next ?_
    refine CW.seq ?_
    refine CW.region ?_
    refine WP.s .n (O.mv rfl) ?_
    refine WP.s .n (O.mv rfl) ?_
    refine WP.s .n (O.cvt rfl Try.underlying62 Try.underlying5 (c := (n : Int)) (wr8 (by omega))) ?_
    refine WP.s .n (O.ixS (N := 256) bitlen n rfl Try.underlying9 rfl len8 (by omega)) ?_
    refine WP.s .n (O.cvt rfl Try.underlying5 Try.underlying3 (c := (bitlen n : Int)) (w64 (by omega))) ?_
    refine WP.s .n (O.add rfl rfl (c := (0 + (bitlen n : Int))) (w64 (by omega))) ?_
    refine WP.s .n (O.asg rfl) ?_
    refine WP.nil ?_
    refine QE.next ?_
    refine CW.ret ?_
    exact QE.done (.inl rfl) rfl (ResOk.tl rfl (is_eq (y := (bitlen n : Int)) (by first | rfl | omega)) ResOk.nil) (OImp.sub (List.nil_sublist _)) ⟨rfl, rfl⟩

set_option maxRecDepth 20000 in
set_option maxHeartbeats 1000000 in
theorem c_bits_Len (n : Nat) (hn : n < 65536) : Fn Try.prog 40 [(kInt .u64).is (n : Int)] ((kInt .i64).is (bitlen n : Int)) := by
  refine Con.enter Try.func40 rfl rfl fun m w => ?_
  refine CW.seq ?_
  refine CW.region ?_
  refine WP.s .n (O.asg rfl) ?_
  refine WP.nil ?_
  refine QE.next ?_
  refine CW.seq ?_
  refine CW.condF rfl ?_
  refine CW.skip ?_
  refine QE.next ?_
  refine CW.seq ?_
  refine CW.region ?_
  refine WP.s .n (O.mv rfl) ?_
  refine WP.s .n (O.fn fn59 (evs.c rfl evs.nil) (c_bits_Len64 n (by assumption))) ?_
  refine WP.s .n (O.asg rfl) ?_
  refine WP.nil ?_
  refine QE.next ?_
  refine CW.ret ?_
  exact QE.done (.inl rfl) rfl (ResOk.t rfl ResOk.nil) (OImp.sub (List.nil_sublist _)) ⟨rfl, rfl⟩

set_option maxRecDepth 20000 in
set_option maxHeartbeats 1000000 in
theorem c_sl_pdq (xs : List T3) (hr : rise xs) (k : Int) (hk : 13 ≤ xs.length → k ≠ 0) : Fn Try.prog 39 [(kSl (kPair kI64 (kPair kI64 kI64))).is xs, (kInt .i64).is 0, (kInt .i64).is (xs.length : Int), (kInt .i64).is k, VP.ex (.func (.func 24) #[] #[])] (VP.tup []) := by
  refine Con.enter Try.func39 rfl rfl fun m w => ?_
  refine ST.fact (i := 0) rfl sl_len fun hB => ?_
  refine CW.seq ?_
  refine CW.region ?_
  refine WP.s .n (O.asg rfl) ?_
  refine WP.nil ?_
  refine QE.next ?_
  refine CW.seq ?_
  refine CW.region ?_
  refine WP.s .n (O.asg rfl) ?_
  refine WP.nil ?_
  refine QE.next ?_
  refine CW.block ?_
  refine CW.loop (fun (z : Nat) => True) (fun (z : Nat) => [(0, (kSl (kPair kI64 (kPair kI64 kI64))).is xs), (1, (kInt .i64).is 0), (2, (kInt .i64).is (xs.length : Int)), (3, (kInt .i64).is k), (4, VP.ex (.func (.func 24) #[] #[])), (10, kBool.is true), (11, kBool.is true)]) (fun (z : Nat) => []) (fun (z : Nat) => 0) 0 trivial (Imp.cons rfl (Imp.cons rfl (Imp.cons rfl (Imp.cons rfl (Imp.cons rfl (Imp.cons rfl (Imp.cons rfl Imp.nil))))))) (OImp.refl _) ?_
  intro z _hz
  refine CW.block ?_
  refine CW.seq ?_
  refine CW.region ?_
  refine WP.s .n (O.mv rfl) ?_
  refine WP.s .n (O.mv rfl) ?_
  refine WP.s .n (O.sub rfl rfl (c := ((xs.length : Int) - 0)) (w64 (by omega))) ?_
  refine WP.s .n (O.asg rfl) ?_
  refine WP.nil ?_
  refine QE.next ?_
  refine CW.seq ?_
  refine CW.seq ?_
  refine CW.region ?_
  refine WP.s .n (O.mv rfl) ?_
  refine WP.s .n (O.le rfl rfl) ?_
  refine WP.nil ?_
  refine QE.next ?_
  refine CW.condD rfl (fun h_t25 => ?_) (fun h_t25 => ?_)
  · refine CW.seq ?_
    refine CW.region ?_
    refine WP.s .n (O.mv rfl) ?_
    refine WP.s .n (O.mv rfl) ?_
    refine WP.s .n (O.mv rfl) ?_
    refine WP.s .n (O.mv rfl) ?_
    refine WP.s .n (O.fn fn51 (evs.c rfl (evs.c rfl (evs.c rfl (evs.c rfl evs.nil)))) (c_sl_insertion xs (by first | assumption | omega))) ?_
    refine WP.nil ?_
    refine QE.next ?_
    refine CW.ret ?_
    refine QE.thenR ?_
    refine QE.blkR ?_
    refine QE.thenR ?_
    refine QE.blkR ?_
    exact QE.done (.inl rfl) rfl ResOk.nil (OImp.sub (List.nil_sublist _)) ⟨rfl, rfl⟩
  · refine CW.skip ?_
    refine QE.next ?_
    refine CW.seq ?_
    refine CW.seq ?_
    refine CW.region ?_
    refine WP.s .n (O.mv rfl) ?_
    refine WP.s .n (O.eq rfl rfl) ?_
    refine WP.nil ?_
    refine QE.next ?_
    refine CW.condD rfl (fun h => absurd h (hk (by omega))) (fun h_t32 => ?_)
    refine CW.skip ?_
    refine QE.next ?_
    refine CW.seq ?_
    refine CW.seq ?_
    refine CW.region ?_
    refine WP.s .n (O.mv rfl) ?_
    refine WP.s .n (O.not (a := true) rfl) ?_
    refine WP.nil ?_
    refine QE.next ?_
    refine CW.condF rfl ?_
    refine CW.skip ?_
    refine QE.next ?_
    refine CW.seq ?_
    refine CW.region ?_
    refine WP.s .n (O.mv rfl) ?_
    refine WP.s .n (O.mv rfl) ?_
    refine WP.s .n (O.mv rfl) ?_
    refine WP.s .n (O.mv rfl) ?_
    refine WP.s .n (O.fn fn54 (evs.c rfl (evs.c rfl (evs.c rfl (evs.c rfl evs.nil)))) (c_sl_pivot xs (by first | assumption | omega) (by first | assumption | omega))) ?_
    refine WP.s .n (O.mv rfl) ?_
    refine WP.s .n (O.ext rfl rfl) ?_
    refine WP.s .n (O.ext rfl rfl) ?_
    refine WP.s .n (O.asg rfl) ?_
    refine WP.s .n (O.asg rfl) ?_
    refine WP.nil ?_
    refine QE.next ?_
    refine CW.seq ?_
    refine CW.seq ?_
    refine CW.region ?_
    refine WP.s .n (O.mv rfl) ?_
    refine WP.s .n (O.eq rfl rfl) ?_
    refine WP.nil ?_
    refine QE.next ?_
    refine CW.condD rfl (fun h => absurd h (by decide)) (fun h_t56 => ?_)
    refine CW.skip ?_
    refine QE.next ?_
    refine CW.seq ?_
    refine CW.seq ?_
    refine CW.region ?_
    refine WP.s .n (O.mv rfl) ?_
    refine WP.s .n (O.mv rfl) ?_
    refine WP.s (.g rfl rfl) (O.mv rfl) ?_
    refine WP.s .n (O.pickT rfl rfl) ?_
    refine WP.s .n (O.mv rfl) ?_
    refine WP.s (.g rfl rfl) (O.mv rfl) ?_
    refine WP.s (.g rfl rfl) (O.eq rfl rfl) ?_
    refine WP.s .n (O.pickT rfl rfl) ?_
    refine WP.nil ?_
    refine QE.next ?_
    refine CW.condD rfl (fun h_t75 => ?_) (fun h => absurd (by decide) h)
    refine CW.seq ?_
    refine CW.region ?_
    refine WP.s .n (O.mv rfl) ?_
    refine WP.s .n (O.mv rfl) ?_
    refine WP.s .n (O.mv rfl) ?_
    refine WP.s .n (O.mv rfl) ?_
    refine WP.s .n (O.fn fn56 (evs.c rfl (evs.c rfl (evs.c rfl (evs.c rfl evs.nil)))) (c_sl_partial xs (by first | assumption | omega) (by first | assumption | omega))) ?_
    refine WP.nil ?_
    refine QE.next ?_
    refine CW.condT rfl ?_
    refine CW.ret ?_
    refine QE.thenR ?_
    refine QE.blkR ?_
    refine QE.thenR ?_
    refine QE.blkR ?_
    exact QE.done (.inl rfl) rfl ResOk.nil (OImp.sub (List.nil_sublist _)) ⟨rfl, rfl⟩

set_option maxRecDepth 20000 in
set_option maxHeartbeats 1000000 in
theorem c_sl_Sort (xs : List T3) (hr : rise xs) (hl : xs.length < 65536) : Fn Try.prog 23 [(kSl (kPair kI64 (kPair kI64 kI64))).is xs, VP.ex (.func (.func 24) #[] #[])] (VP.tup []) := by
  refine Con.enter Try.func23 rfl rfl fun m w => ?_
  refine ST.fact (i := 0) rfl sl_len fun hB => ?_
  refine CW.seq ?_
  refine CW.region ?_
  refine WP.s .n (O.mv rfl) ?_
  refine WP.s .n (O.lenS rfl Try.underlying54) ?_
  refine WP.s .n (O.asg rfl) ?_
  refine WP.nil ?_
  refine QE.next ?_
  refine CW.region ?_
  refine WP.s .n (O.mv rfl) ?_
  refine WP.s .n (O.mv rfl) ?_
  refine WP.s .n (O.mv rfl) ?_
  refine WP.s .n (O.cvt rfl Try.underlying3 Try.underlying64 (c := (xs.length : Int)) (wu64 (by omega))) ?_
  refine WP.s .n (O.fn fn40 (evs.l rfl (is_eq (y := ((xs.length : Nat) : Int)) (by first | rfl | omega)) evs.nil) (c_bits_Len xs.length hl)) ?_
  refine WP.s .n (O.mv rfl) ?_
  refine WP.s .n (O.fn fn39 (evs.c rfl (evs.c rfl (evs.c rfl (evs.c rfl (evs.c rfl evs.nil))))) (c_sl_pdq xs (by omega) (bitlen xs.length : Int) (fun h => bl_ne (by omega)))) ?_
  refine WP.nil ?_
  exact QE.done (.inr rfl) rfl ResOk.nil (OImp.sub (List.nil_sublist _)) ⟨rfl, rfl⟩

end Fw


/- All classes of a discriminant; the statement QuadClasses. -/
set_option linter.unusedVariables false
set_option linter.unusedSimpArgs false
set_option exponentiation.threshold 400
namespace Fw
open Go Go.Proofs

set_option maxRecDepth 20000 in
set_option maxHeartbeats 8000000 in
theorem c_quad_Classes (d : Int) : Fn Try.prog 10 [(kInt .i64).is d] (VP.tup [(kSl (kPair kC (kPair kC kC))).is ((clV d).1), (kInt .i64).is ((clV d).2)]) := by
  refine Con.enter Try.func10 rfl rfl fun m w => ?_
  have htm := tmod4 d
  refine CW.seq ?_
  refine CW.region ?_
  refine WP.s .n (O.asg rfl) ?_
  refine WP.s .n (O.asg rfl) ?_
  refine WP.nil ?_
  refine QE.next ?_
  refine CW.seq ?_
  refine CW.seq ?_
  refine CW.region ?_
  refine WP.s .n (O.mv rfl) ?_
  refine WP.s .n (O.ge rfl rfl) ?_
  refine WP.s .n (O.mv rfl) ?_
  refine WP.splitD 13 rfl (fun h_t13 => ?_) (fun h_t13 => ?_)
  · refine WP.ku (b := true) rfl rfl ?_
    refine WP.ku (b := true) rfl rfl ?_
    refine WP.s .n (O.pickT rfl rfl) ?_
    refine WP.s .n (O.mv rfl) ?_
    refine WP.ku (b := true) rfl rfl ?_
    refine WP.ku (b := true) rfl rfl ?_
    refine WP.ku (b := true) rfl rfl ?_
    refine WP.ku (b := true) rfl rfl ?_
    refine WP.ku (b := true) rfl rfl ?_
    refine WP.s .n (O.pickT rfl rfl) ?_
    refine WP.nil ?_
    refine QE.next ?_
    refine CW.condT rfl ?_
    refine CW.seq ?_
    refine CW.region ?_
    refine WP.s .n (O.asg rfl) ?_
    refine WP.s .n (O.asg rfl) ?_
    refine WP.nil ?_
    refine QE.next ?_
    refine CW.ret ?_
    refine QE.thenR ?_
    refine ST.told (q := (kSl (kPair kC (kPair kC kC))).is ([] : List T3)) 2 rfl (nil_le _) ?_
    have hV := clV_1 (d := d) (.inl h_t13)
    refine ST.told 2 rfl (is_eq (y := ((clV d).1)) (by rw [hV])) ?_
    refine ST.told 3 rfl (is_eq (y := ((clV d).2)) (by rw [hV])) ?_
    exact QE.done (.inl rfl) rfl (ResOk.t rfl (ResOk.t rfl ResOk.nil)) (OImp.sub (List.nil_sublist _)) ⟨rfl, rfl⟩
  · refine WP.s (.g rfl rfl) (O.mv rfl) ?_
    refine WP.s (.g rfl rfl) (O.lt rfl rfl) ?_
    refine WP.s .n (O.pickF rfl rfl) ?_
    refine WP.s .n (O.mv rfl) ?_
    refine WP.splitD 17 rfl (fun h_t17 => ?_) (fun h_t17 => ?_)
    · refine WP.ku (b := true) rfl rfl ?_
      refine WP.ku (b := true) rfl rfl ?_
      refine WP.ku (b := true) rfl rfl ?_
      refine WP.ku (b := true) rfl rfl ?_
      refine WP.ku (b := true) rfl rfl ?_
      refine WP.s .n (O.pickT rfl rfl) ?_
      refine WP.nil ?_
      refine QE.next ?_
      refine CW.condT rfl ?_
      refine CW.seq ?_
      refine CW.region ?_
      refine WP.s .n (O.asg rfl) ?_
      refine WP.s .n (O.asg rfl) ?_
      refine WP.nil ?_
      refine QE.next ?_
      refine CW.ret ?_
      refine QE.thenR ?_
      refine ST.told (q := (kSl (kPair kC (kPair kC kC))).is ([] : List T3)) 2 rfl (nil_le _) ?_
      have hV := clV_1 (d := d) (.inr (.inl h_t17))
      refine ST.told 2 rfl (is_eq (y := ((clV d).1)) (by rw [hV])) ?_
      refine ST.told 3 rfl (is_eq (y := ((clV d).2)) (by rw [hV])) ?_
      exact QE.done (.inl rfl) rfl (ResOk.t rfl (ResOk.t rfl ResOk.nil)) (OImp.sub (List.nil_sublist _)) ⟨rfl, rfl⟩
    · have hd1 : -20000 ≤ d := by omega
      have hd2 : d < 0 := by omega
      refine WP.s (.g rfl rfl) (O.mv rfl) ?_
      refine WP.s (.g rfl rfl) (O.rem rfl rfl (by omega) (c := (d.tmod 4)) rfl) ?_
      refine WP.s (.g rfl rfl) (O.add rfl rfl (c := ((d.tmod 4) + 4)) (w64 (by omega))) ?_
      refine WP.s (.g rfl rfl) (O.rem rfl rfl (by omega) (c := ((d.tmod 4 + 4).tmod 4)) rfl) ?_
      refine WP.s (.g rfl rfl) (O.gt rfl rfl) ?_
      refine WP.s .n (O.pickF rfl rfl) ?_
      refine WP.nil ?_
      refine QE.next ?_
      refine CW.condD rfl (fun h_t23 => ?_) (fun h_t23 => ?_)
      · refine CW.seq ?_
        refine CW.region ?_
        refine WP.s .n (O.asg rfl) ?_
        refine WP.s .n (O.asg rfl) ?_
        refine WP.nil ?_
        refine QE.next ?_
        refine CW.ret ?_
        refine QE.thenR ?_
        refine ST.told (q := (kSl (kPair kC (kPair kC kC))).is ([] : List T3)) 2 rfl (nil_le _) ?_
        have hV := clV_1 (d := d) (.inr (.inr h_t23))
        refine ST.told 2 rfl (is_eq (y := ((clV d).1)) (by rw [hV])) ?_
        refine ST.told 3 rfl (is_eq (y := ((clV d).2)) (by rw [hV])) ?_
        exact QE.done (.inl rfl) rfl (ResOk.t rfl (ResOk.t rfl ResOk.nil)) (OImp.sub (List.nil_sublist _)) ⟨rfl, rfl⟩
      · refine CW.skip ?_
        refine QE.next ?_
        refine CW.seq ?_
        refine CW.region ?_
        refine WP.s .n (O.asg rfl) ?_
        refine WP.nil ?_
        refine QE.next ?_
        refine CW.seq ?_
        refine CW.seq ?_
        refine CW.region ?_
        refine WP.s .n (O.asg rfl) ?_
        refine WP.nil ?_
        refine QE.next ?_
        refine CW.block ?_
        refine ST.nilrow 56 (kPair kI64 (kPair kI64 kI64)) ?_
        refine CW.loop3 (fun (a : Int) (out : List T3) (v : Value) => ClR d a out) (fun (a : Int) (out : List T3) (v : Value) => [(0, (kInt .i64).is d), (4, VP.ex v), (5, (kInt .i64).is a)]) (fun (a : Int) (out : List T3) (v : Value) => [OB.row v 56 (kPair kI64 (kPair kI64 kI64)) out]) (fun (a : Int) (out : List T3) (v : Value) => (100 - a).toNat) 1 [] (.slice none 0 0) (clR_0 d) (Imp.cons rfl (Imp.cons rfl (Imp.cons rfl Imp.nil))) (OImp.refl _) ?_
        intro a out v hC
        have hCl := hC.lo
        have hCh := hC.hi
        have haa := aa_bd (a := a) (by omega) (by omega)
        refine CW.seq ?_
        refine CW.seq ?_
        refine CW.region ?_
        refine WP.s .n (O.mv rfl) ?_
        refine WP.s .n (O.mul rfl rfl (c := (3 * a)) (w64 (by omega))) ?_
        refine WP.s .n (O.mv rfl) ?_
        refine WP.s .n (O.mul rfl rfl (c := ((3 * a) * a)) (w64 (by omega))) ?_
        refine WP.s .n (O.mv rfl) ?_
        refine WP.s .n (O.neg rfl (c := (0 - d)) (w64 (by omega))) ?_
        refine WP.s .n (O.le rfl rfl) ?_
        refine WP.nil ?_
        refine QE.next ?_
        refine CW.condD rfl (fun h_t30 => ?_) (fun h_t30 => ?_)
        · have h3 : 3 * a * a ≤ -d := by omega
          have ha81 := a_bd hd1 hCl h3
          refine CW.skip ?_
          refine QE.next ?_
          refine CW.seq ?_
          refine CW.block ?_
          refine CW.seq ?_
          refine CW.region ?_
          refine WP.s .n (O.mv rfl) ?_
          refine WP.s .n (O.neg rfl (c := (0 - a)) (w64 (by omega))) ?_
          refine WP.s .n (O.add rfl rfl (c := ((0 - a) + 1)) (w64 (by omega))) ?_
          refine WP.s .n (O.asg rfl) ?_
          refine WP.nil ?_
          refine QE.next ?_
          refine CW.block ?_
          refine ST.obtold 0 rfl (OB.row_eq (ys := (out ++ rowT d a ((1 - a) - (1 - a)).toNat)) (by rw [show ((1 - a) - (1 - a)).toNat = 0 from by omega]; simp [rowT])) ?_
          refine CW.loop2 (fun (b : Int) (v : Value) => 1 - a ≤ b ∧ b ≤ a + 1) (fun (b : Int) (v : Value) => [(0, (kInt .i64).is d), (4, VP.ex v), (5, (kInt .i64).is a), (6, (kInt .i64).is b)]) (fun (b : Int) (v : Value) => [OB.row v 56 (kPair kI64 (kPair kI64 kI64)) (out ++ rowT d a (b - (1 - a)).toNat)]) (fun (b : Int) (v : Value) => (a + 1 - b).toNat) (1 - a) v (by omega) (Imp.cons rfl (Imp.cons rfl (Imp.cons rfl (Imp.consLe rfl (is_eq (y := (1 - a)) (by first | rfl | omega | assumption)) Imp.nil)))) (OImp.refl _) ?_
          intro b v ⟨hb1, hb2⟩
          have hbb := sq_bd (b := b) (by omega) (by omega)
          have hcb := cT_bd (d := d) (a := a) (b := b) hd1 hd2 hCl (by omega) (by omega)
          have hln := listT_len hC
          have hrl := rowT_len d a (b - (1 - a)).toNat
          refine CW.seq ?_
          refine CW.seq ?_
          refine CW.region ?_
          refine WP.s .n (O.mv rfl) ?_
          refine WP.s .n (O.mv rfl) ?_
          refine WP.s .n (O.le rfl rfl) ?_
          refine WP.nil ?_
          refine QE.next ?_
          refine CW.condD rfl (fun h_t38 => ?_) (fun h_t38 => ?_)
          · refine CW.skip ?_
            refine QE.next ?_
            refine CW.seq ?_
            refine CW.block ?_
            refine CW.seq ?_
            refine CW.seq ?_
            refine CW.region ?_
            refine WP.s .n (O.mv rfl) ?_
            refine WP.s .n (O.mv rfl) ?_
            refine WP.s .n (O.mul rfl rfl (c := (b * b)) (w64 (by omega))) ?_
            refine WP.s .n (O.mv rfl) ?_
            refine WP.s .n (O.sub rfl rfl (c := ((b * b) - d)) (w64 (by omega))) ?_
            refine WP.s .n (O.mv rfl) ?_
            refine WP.s .n (O.mul rfl rfl (c := (4 * a)) (w64 (by omega))) ?_
            refine WP.s .n (O.rem rfl rfl (by omega) (c := ((b * b - d).tmod (4 * a))) rfl) ?_
            refine WP.s .n (O.ne rfl rfl) ?_
            refine WP.nil ?_
            refine QE.next ?_
            refine CW.condD rfl (fun h_t49 => ?_) (fun h_t49 => ?_)
            · refine CW.exit ?_
              refine QE.thenE ?_
              refine QE.blkH ?_
              refine QE.next ?_
              refine CW.region ?_
              refine WP.s .n (O.mv rfl) ?_
              refine WP.s .n (O.add rfl rfl (c := (b + 1)) (w64 (by omega))) ?_
              refine WP.s .n (O.asg rfl) ?_
              refine WP.nil ?_
              refine ST.obtold 0 rfl (OB.row_eq (ys := (out ++ rowT d a (b + 1 - (1 - a)).toNat)) (rowT_no hb1 (fun h => h_t49 h.1))) ?_
              exact QE.round2 (b + 1) v (by omega) (by omega) (Imp.cons rfl (Imp.cons rfl (Imp.cons rfl (Imp.cons rfl Imp.nil)))) (OImp.os (OS.keepLe (OB.row_eq (by first | rfl | omega | assumption)) OS.nil))
            · have hm0 : (b * b - d).tmod (4 * a) = 0 := by omega
              have hgb := gcdb a b
              refine CW.skip ?_
              refine QE.next ?_
              refine CW.seq ?_
              refine CW.region ?_
              refine WP.s .n (O.mv rfl) ?_
              refine WP.s .n (O.mv rfl) ?_
              refine WP.s .n (O.mv rfl) ?_
              refine WP.s .n (O.mv rfl) ?_
              refine WP.s .n (O.mul rfl rfl (c := (b * b)) (w64 (by omega))) ?_
              refine WP.s .n (O.mv rfl) ?_
              refine WP.s .n (O.sub rfl rfl (c := ((b * b) - d)) (w64 (by omega))) ?_
              refine WP.s .n (O.mv rfl) ?_
              refine WP.s .n (O.mul rfl rfl (c := (4 * a)) (w64 (by omega))) ?_
              refine WP.s .n (O.quo rfl rfl (by omega) (c := (cT d a b)) (cTw hcb)) ?_
              refine WP.s .n (O.bld lit56_pr_int_pr_int_int__ rfl (evp.l rfl (i64_int (by omega)) (evp.l rfl (i64_int (by omega)) (evp.l rfl (i64_int (by omega)) evp.n))) (.cons rfl (Lens.fst (Lens.id _)) (.cons rfl (Lens.snd (Lens.fst (Lens.id _))) (.cons rfl (Lens.snd (Lens.snd (Lens.id _))) (.nil _))))) ?_
              refine WP.al .n z56_pr_int_pr_int_int__ fun b1 => ?_
              refine WP.t .n (O.stW (l := (kPair kI64 (kPair kI64 kI64))) (u := (a, (b, (cT d a b)))) 0 rfl rfl rfl ty56 rfl (VP.le_refl _)) ?_
              refine WP.nil ?_
              refine QE.next ?_
              refine CW.seq ?_
              refine CW.seq ?_
              by_cases hc1 : cT d a b < a
              · refine CW.draw (Γ := [.fr (VP.ex (.pointer (some ⟨b1, 2, none⟩))), .fr ((kInt .i64).is (cT d a b)), .fr ((kInt .i64).is a), .fr (kBool.is true), .fr (kBool.is true), .fr (VP.ex undef), .fr (VP.ex undef), .fr (VP.ex undef), .fr (VP.ex undef), .fr (VP.ex undef), .fr (VP.ex undef), .fr (VP.ex undef), .fr (VP.ex undef), .fr (kBool.is true), .fr (kBool.is true), .fr (VP.ex undef), .fr (VP.ex undef), .fr (VP.ex undef), .fr (VP.ex undef), .fr (VP.ex undef), .fr (VP.ex undef), .fr (VP.ex undef), .fr (kBool.is true), .fr (kBool.is true), .fr (VP.ex undef), .fr (VP.ex undef), .fr (VP.ex undef), .fr (kBool.is true)]) (lates := [false, false, false, false, false, false, false, false, false, false, false, false, false, false, false, false, false, false, false, false, false, false, false, false, false, false, false, false]) (by kernel_rfl) (Chk.of rfl (by kernel_rfl) rfl) (fun _ _ _ _ _ h => h) (fun q_ x_ h_ => ?_) (fun σ1 => ?_)
                · match q_, h_ with
                  | 0, h_ => cases h_; exact Ob.f rfl .n fun N => (O.fa rfl fld56_2 rfl)
                  | 1, h_ => cases h_; exact Ob.f rfl .n fun N => (OpOk.le (O.ld (p := kI64.is (cT d a b)) rfl (mem_app N (mem_at 0 rfl)) (Lens.snd (Lens.snd (Lens.id _))) ty3 rfl) (i64_le _))
                  | 2, h_ => cases h_; exact Ob.f rfl .n fun N => (O.mv rfl)
                  | 3, h_ => cases h_; exact Ob.f rfl .n fun N => (OpOk.le (O.lt rfl rfl) (is_eq (decide_eq_true hc1)))
                  | 4, h_ => cases h_; exact Ob.f rfl .n fun N => (O.mv rfl)
                  | 5, h_ => cases h_; exact Ob.ku (b := true) rfl rfl rfl
                  | 6, h_ => cases h_; exact Ob.ku (b := true) rfl rfl rfl
                  | 7, h_ => cases h_; exact Ob.ku (b := true) rfl rfl rfl
                  | 8, h_ => cases h_; exact Ob.ku (b := true) rfl rfl rfl
                  | 9, h_ => cases h_; exact Ob.ku (b := true) rfl rfl rfl
                  | 10, h_ => cases h_; exact Ob.kk rfl rfl rfl
                  | 11, h_ => cases h_; exact Ob.kk rfl rfl rfl
                  | 12, h_ => cases h_; exact Ob.ku (b := true) rfl rfl rfl
                  | 13, h_ => cases h_; exact Ob.f rfl .n fun N => (O.pickT rfl rfl)
                  | 14, h_ => cases h_; exact Ob.f rfl .n fun N => (O.mv rfl)
                  | 15, h_ => cases h_; exact Ob.ku (b := true) rfl rfl rfl
                  | 16, h_ => cases h_; exact Ob.ku (b := true) rfl rfl rfl
                  | 17, h_ => cases h_; exact Ob.ku (b := true) rfl rfl rfl
                  | 18, h_ => cases h_; exact Ob.ku (b := true) rfl rfl rfl
                  | 19, h_ => cases h_; exact Ob.ku (b := true) rfl rfl rfl
                  | 20, h_ => cases h_; exact Ob.ku (b := true) rfl rfl rfl
                  | 21, h_ => cases h_; exact Ob.ku (b := true) rfl rfl rfl
                  | 22, h_ => cases h_; exact Ob.f rfl .n fun N => (O.pickT rfl rfl)
                  | 23, h_ => cases h_; exact Ob.f rfl .n fun N => (O.mv rfl)
                  | 24, h_ => cases h_; exact Ob.ku (b := true) rfl rfl rfl
                  | 25, h_ => cases h_; exact Ob.ku (b := true) rfl rfl rfl
                  | 26, h_ => cases h_; exact Ob.ku (b := true) rfl rfl rfl
                  | 27, h_ => cases h_; exact Ob.f rfl .n fun N => (O.pickT rfl rfl)
                  | n_ + 28, h_ => simp at h_
                refine WP.nil ?_
                refine QE.next ?_
                refine CW.condT rfl ?_
                refine CW.exit ?_
                refine QE.thenE ?_
                refine QE.blkH ?_
                refine QE.next ?_
                refine CW.region ?_
                refine WP.s .n (O.mv rfl) ?_
                refine WP.s .n (O.add rfl rfl (c := (b + 1)) (w64 (by omega))) ?_
                refine WP.s .n (O.asg rfl) ?_
                refine WP.nil ?_
                refine ST.obtold 1 rfl (OB.row_eq (ys := (out ++ rowT d a (b + 1 - (1 - a)).toNat)) (rowT_no hb1 (fun h => h.2.1 hc1))) ?_
                exact QE.round2 (b + 1) v (by omega) (by omega) (Imp.cons rfl (Imp.cons rfl (Imp.cons rfl (Imp.cons rfl Imp.nil)))) (OImp.os (OS.skip (OS.keepLe (OB.row_eq (by first | rfl | omega | assumption)) OS.nil)))
              · by_cases hc2 : cT d a b = a
                · by_cases hc3 : b < 0
                  · refine CW.draw (Γ := [.fr (VP.ex (.pointer (some ⟨b1, 2, none⟩))), .fr ((kInt .i64).is (cT d a b)), .fr ((kInt .i64).is a), .fr (kBool.is false), .fr (kBool.is false), .fr (VP.ex (.pointer (some ⟨b1, 2, none⟩))), .fr ((kInt .i64).is (cT d a b)), .fr ((kInt .i64).is a), .fr (kBool.is true), .fr (kBool.is true), .fr ((kInt .i64).is b), .fr (kBool.is true), .fr (kBool.is true), .fr (kBool.is true), .fr (kBool.is true), .fr (VP.ex undef), .fr (VP.ex undef), .fr (VP.ex undef), .fr (VP.ex undef), .fr (VP.ex undef), .fr (VP.ex undef), .fr (VP.ex undef), .fr (kBool.is true), .fr (kBool.is true), .fr (VP.ex undef), .fr (VP.ex undef), .fr (VP.ex undef), .fr (kBool.is true)]) (lates := [false, false, false, false, false, false, false, false, false, false, false, false, false, false, false, false, false, false, false, false, false, false, false, false, false, false, false, false]) (by kernel_rfl) (Chk.of rfl (by kernel_rfl) rfl) (fun _ _ _ _ _ h => h) (fun q_ x_ h_ => ?_) (fun σ2 => ?_)
                    · match q_, h_ with
                      | 0, h_ => cases h_; exact Ob.f rfl .n fun N => (O.fa rfl fld56_2 rfl)
                      | 1, h_ => cases h_; exact Ob.f rfl .n fun N => (OpOk.le (O.ld (p := kI64.is (cT d a b)) rfl (mem_app N (mem_at 0 rfl)) (Lens.snd (Lens.snd (Lens.id _))) ty3 rfl) (i64_le _))
                      | 2, h_ => cases h_; exact Ob.f rfl .n fun N => (O.mv rfl)
                      | 3, h_ => cases h_; exact Ob.f rfl .n fun N => (OpOk.le (O.lt rfl rfl) (is_eq (decide_eq_false hc1)))
                      | 4, h_ => cases h_; exact Ob.f rfl .n fun N => (O.mv rfl)
                      | 5, h_ => cases h_; exact Ob.f rfl (.g rfl rfl) fun N => (O.fa rfl fld56_2 rfl)
                      | 6, h_ => cases h_; exact Ob.f rfl (.g rfl rfl) fun N => (OpOk.le (O.ld (p := kI64.is (cT d a b)) rfl (mem_app N (mem_at 0 rfl)) (Lens.snd (Lens.snd (Lens.id _))) ty3 rfl) (i64_le _))
                      | 7, h_ => cases h_; exact Ob.f rfl (.g rfl rfl) fun N => (O.mv rfl)
                      | 8, h_ => cases h_; exact Ob.f rfl (.g rfl rfl) fun N => (OpOk.le (O.eq rfl rfl) (is_eq (decide_eq_true hc2)))
                      | 9, h_ => cases h_; exact Ob.f rfl (.g rfl rfl) fun N => (O.mv rfl)
                      | 10, h_ => cases h_; exact Ob.f rfl (.g rfl rfl) fun N => (O.mv rfl)
                      | 11, h_ => cases h_; exact Ob.f rfl (.g rfl rfl) fun N => (OpOk.le (O.lt rfl rfl) (is_eq (decide_eq_true hc3)))
                      | 12, h_ => cases h_; exact Ob.f rfl (.g rfl rfl) fun N => (O.pickT rfl rfl)
                      | 13, h_ => cases h_; exact Ob.f rfl .n fun N => (O.pickF rfl rfl)
                      | 14, h_ => cases h_; exact Ob.f rfl .n fun N => (O.mv rfl)
                      | 15, h_ => cases h_; exact Ob.ku (b := true) rfl rfl rfl
                      | 16, h_ => cases h_; exact Ob.ku (b := true) rfl rfl rfl
                      | 17, h_ => cases h_; exact Ob.ku (b := true) rfl rfl rfl
                      | 18, h_ => cases h_; exact Ob.ku (b := true) rfl rfl rfl
                      | 19, h_ => cases h_; exact Ob.ku (b := true) rfl rfl rfl
                      | 20, h_ => cases h_; exact Ob.ku (b := true) rfl rfl rfl
                      | 21, h_ => cases h_; exact Ob.ku (b := true) rfl rfl rfl
                      | 22, h_ => cases h_; exact Ob.f rfl .n fun N => (O.pickT rfl rfl)
                      | 23, h_ => cases h_; exact Ob.f rfl .n fun N => (O.mv rfl)
                      | 24, h_ => cases h_; exact Ob.ku (b := true) rfl rfl rfl
                      | 25, h_ => cases h_; exact Ob.ku (b := true) rfl rfl rfl
                      | 26, h_ => cases h_; exact Ob.ku (b := true) rfl rfl rfl
                      | 27, h_ => cases h_; exact Ob.f rfl .n fun N => (O.pickT rfl rfl)
                      | n_ + 28, h_ => simp at h_
                    refine WP.nil ?_
                    refine QE.next ?_
                    refine CW.condT rfl ?_
                    refine CW.exit ?_
                    refine QE.thenE ?_
                    refine QE.blkH ?_
                    refine QE.next ?_
                    refine CW.region ?_
                    refine WP.s .n (O.mv rfl) ?_
                    refine WP.s .n (O.add rfl rfl (c := (b + 1)) (w64 (by omega))) ?_
                    refine WP.s .n (O.asg rfl) ?_
                    refine WP.nil ?_
                    refine ST.obtold 1 rfl (OB.row_eq (ys := (out ++ rowT d a (b + 1 - (1 - a)).toNat)) (rowT_no hb1 (fun h => h.2.2.1 ⟨hc2, hc3⟩))) ?_
                    exact QE.round2 (b + 1) v (by omega) (by omega) (Imp.cons rfl (Imp.cons rfl (Imp.cons rfl (Imp.cons rfl Imp.nil)))) (OImp.os (OS.skip (OS.keepLe (OB.row_eq (by first | rfl | omega | assumption)) OS.nil)))
                  · by_cases hg : ((Int.gcd (Int.gcd a b : Int) (cT d a b) : Nat) : Int) = 1
                    · refine CW.draw (Γ := [.fr (VP.ex (.pointer (some ⟨b1, 2, none⟩))), .fr ((kInt .i64).is (cT d a b)), .fr ((kInt .i64).is a), .fr (kBool.is false), .fr (kBool.is false), .fr (VP.ex (.pointer (some ⟨b1, 2, none⟩))), .fr ((kInt .i64).is (cT d a b)), .fr ((kInt .i64).is a), .fr (kBool.is true), .fr (kBool.is true), .fr ((kInt .i64).is b), .fr (kBool.is false), .fr (kBool.is false), .fr (kBool.is false), .fr (kBool.is false), .fr ((kInt .i64).is a), .fr ((kInt .i64).is b), .fr ((kInt .i64).is (Int.gcd a b : Int)), .fr (VP.ex (.pointer (some ⟨b1, 2, none⟩))), .fr ((kInt .i64).is (cT d a b)), .fr ((kInt .i64).is (Int.gcd (Int.gcd a b : Int) (cT d a b) : Int)), .fr (kBool.is false), .fr (kBool.is false), .fr (kBool.is false), .fr (VP.ex v), .fr ((kPair kI64 (kPair kI64 kI64)).is (a, (b, (cT d a b)))), .fr (kBool.is false), .fr (kBool.is false)]) (lates := [false, false, false, false, false, false, false, false, false, false, false, false, false, false, false, false, false, false, false, false, false, false, false, false, false, false, false, false]) (by kernel_rfl) (Chk.of rfl (by kernel_rfl) rfl) (fun _ _ _ _ _ h => h) (fun q_ x_ h_ => ?_) (fun σ3 => ?_)
                      · match q_, h_ with
                        | 0, h_ => cases h_; exact Ob.f rfl .n fun N => (O.fa rfl fld56_2 rfl)
                        | 1, h_ => cases h_; exact Ob.f rfl .n fun N => (OpOk.le (O.ld (p := kI64.is (cT d a b)) rfl (mem_app N (mem_at 0 rfl)) (Lens.snd (Lens.snd (Lens.id _))) ty3 rfl) (i64_le _))
                        | 2, h_ => cases h_; exact Ob.f rfl .n fun N => (O.mv rfl)
                        | 3, h_ => cases h_; exact Ob.f rfl .n fun N => (OpOk.le (O.lt rfl rfl) (is_eq (decide_eq_false hc1)))
                        | 4, h_ => cases h_; exact Ob.f rfl .n fun N => (O.mv rfl)
                        | 5, h_ => cases h_; exact Ob.f rfl (.g rfl rfl) fun N => (O.fa rfl fld56_2 rfl)
                        | 6, h_ => cases h_; exact Ob.f rfl (.g rfl rfl) fun N => (OpOk.le (O.ld (p := kI64.is (cT d a b)) rfl (mem_app N (mem_at 0 rfl)) (Lens.snd (Lens.snd (Lens.id _))) ty3 rfl) (i64_le _))
                        | 7, h_ => cases h_; exact Ob.f rfl (.g rfl rfl) fun N => (O.mv rfl)
                        | 8, h_ => cases h_; exact Ob.f rfl (.g rfl rfl) fun N => (OpOk.le (O.eq rfl rfl) (is_eq (decide_eq_true hc2)))
                        | 9, h_ => cases h_; exact Ob.f rfl (.g rfl rfl) fun N => (O.mv rfl)
                        | 10, h_ => cases h_; exact Ob.f rfl (.g rfl rfl) fun N => (O.mv rfl)
                        | 11, h_ => cases h_; exact Ob.f rfl (.g rfl rfl) fun N => (OpOk.le (O.lt rfl rfl) (is_eq (decide_eq_false hc3)))
                        | 12, h_ => cases h_; exact Ob.f rfl (.g rfl rfl) fun N => (O.pickT rfl rfl)
                        | 13, h_ => cases h_; exact Ob.f rfl .n fun N => (O.pickF rfl rfl)
                        | 14, h_ => cases h_; exact Ob.f rfl .n fun N => (O.mv rfl)
                        | 15, h_ => cases h_; exact Ob.f rfl (.g rfl rfl) fun N => (O.mv rfl)
                        | 16, h_ => cases h_; exact Ob.f rfl (.g rfl rfl) fun N => (O.mv rfl)
                        | 17, h_ => cases h_; exact Ob.f rfl (.g rfl rfl) fun N => (O.fn fn21 (evs.c rfl (evs.c rfl evs.nil)) (c_quad_gcd a b (by omega) (by omega)))
                        | 18, h_ => cases h_; exact Ob.f rfl (.g rfl rfl) fun N => (O.fa rfl fld56_2 rfl)
                        | 19, h_ => cases h_; exact Ob.f rfl (.g rfl rfl) fun N => (OpOk.le (O.ld (p := kI64.is (cT d a b)) rfl (mem_app N (mem_at 0 rfl)) (Lens.snd (Lens.snd (Lens.id _))) ty3 rfl) (i64_le _))
                        | 20, h_ => cases h_; exact Ob.f rfl (.g rfl rfl) fun N => (O.fn fn21 (evs.c rfl (evs.c rfl evs.nil)) (c_quad_gcd (Int.gcd a b : Int) (cT d a b) (by omega) (by omega)))
                        | 21, h_ => cases h_; exact Ob.f rfl (.g rfl rfl) fun N => (OpOk.le (O.ne rfl rfl) (is_eq (decide_eq_false (fun h => h hg))))
                        | 22, h_ => cases h_; exact Ob.f rfl .n fun N => (O.pickF rfl rfl)
                        | 23, h_ => cases h_; exact Ob.f rfl .n fun N => (O.mv rfl)
                        | 24, h_ => cases h_; exact Ob.f rfl (.g rfl rfl) fun N => (O.mv rfl)
                        | 25, h_ => cases h_; exact Ob.f rfl (.g rfl rfl) fun N => (O.ld (p := (kPair kI64 (kPair kI64 kI64)).is (a, (b, (cT d a b)))) rfl (mem_app N (mem_at 0 rfl)) (Lens.id _) ty56 rfl)
                        | 26, h_ => cases h_; exact Ob.f rfl (.g rfl rfl) fun N => (O.fn1 (b := OB.row v 56 (kPair kI64 (kPair kI64 kI64)) (out ++ rowT d a (b - (1 - a)).toNat)) (mem_app N (mem_at 1 rfl)) fn22 (evs.c rfl (evs.c rfl evs.nil)) (c_sl_Contains v (out ++ rowT d a (b - (1 - a)).toNat) (a, (b, (cT d a b))) (of_decide_eq_false (clR_not hC hb1))))
                        | 27, h_ => cases h_; exact Ob.f rfl .n fun N => (O.pickF rfl rfl)
                        | n_ + 28, h_ => simp at h_
                      refine WP.nil ?_
                      refine QE.next ?_
                      refine CW.condF rfl ?_
                      refine CW.skip ?_
                      refine QE.next ?_
                      refine CW.region ?_
                      refine WP.s .n (O.mv rfl) ?_
                      refine WP.s .n (O.ld (p := (kPair kI64 (kPair kI64 kI64)).is (a, (b, (cT d a b)))) rfl (mem_at 0 rfl) (Lens.id _) ty56 rfl) ?_
                      refine WP.s .n (O.bs Try.underlying54 el56_pr_int_pr_int_int__ (evl.c rfl evl.n) rfl (by decide)) ?_
                      refine WP.ap 1 .n rfl rfl rfl (VP.le_refl _) Try.underlying54 el56_pr_int_pr_int_int__ (by simp; omega) fun v2 => ?_
                      refine WP.s .n (O.asg rfl) ?_
                      refine WP.nil ?_
                      refine QE.blkN ?_
                      refine QE.next ?_
                      refine CW.region ?_
                      refine WP.s .n (O.mv rfl) ?_
                      refine WP.s .n (O.add rfl rfl (c := (b + 1)) (w64 (by omega))) ?_
                      refine WP.s .n (O.asg rfl) ?_
                      refine WP.nil ?_
                      refine ST.obtold 1 rfl (OB.row_eq (ys := (out ++ rowT d a (b + 1 - (1 - a)).toNat)) (rowT_yes hb1 ⟨hm0, hc1, (fun h => hc3 h.2), hg⟩)) ?_
                      exact QE.round2 (b + 1) v2 (by omega) (by omega) (Imp.cons rfl (Imp.cons rfl (Imp.cons rfl (Imp.cons rfl Imp.nil)))) (OImp.os (OS.skip (OS.keepLe (OB.row_eq (by first | rfl | omega | assumption)) OS.nil)))
                    · refine CW.draw (Γ := [.fr (VP.ex (.pointer (some ⟨b1, 2, none⟩))), .fr ((kInt .i64).is (cT d a b)), .fr ((kInt .i64).is a), .fr (kBool.is false), .fr (kBool.is false), .fr (VP.ex (.pointer (some ⟨b1, 2, none⟩))), .fr ((kInt .i64).is (cT d a b)), .fr ((kInt .i64).is a), .fr (kBool.is true), .fr (kBool.is true), .fr ((kInt .i64).is b), .fr (kBool.is false), .fr (kBool.is false), .fr (kBool.is false), .fr (kBool.is false), .fr ((kInt .i64).is a), .fr ((kInt .i64).is b), .fr ((kInt .i64).is (Int.gcd a b : Int)), .fr (VP.ex (.pointer (some ⟨b1, 2, none⟩))), .fr ((kInt .i64).is (cT d a b)), .fr ((kInt .i64).is (Int.gcd (Int.gcd a b : Int) (cT d a b) : Int)), .fr (kBool.is true), .fr (kBool.is true), .fr (kBool.is true), .fr (VP.ex undef), .fr (VP.ex undef), .fr (VP.ex undef), .fr (kBool.is true)]) (lates := [false, false, false, false, false, false, false, false, false, false, false, false, false, false, false, false, false, false, false, false, false, false, false, false, false, false, false, false]) (by kernel_rfl) (Chk.of rfl (by kernel_rfl) rfl) (fun _ _ _ _ _ h => h) (fun q_ x_ h_ => ?_) (fun σ4 => ?_)
                      · match q_, h_ with
                        | 0, h_ => cases h_; exact Ob.f rfl .n fun N => (O.fa rfl fld56_2 rfl)
                        | 1, h_ => cases h_; exact Ob.f rfl .n fun N => (OpOk.le (O.ld (p := kI64.is (cT d a b)) rfl (mem_app N (mem_at 0 rfl)) (Lens.snd (Lens.snd (Lens.id _))) ty3 rfl) (i64_le _))
                        | 2, h_ => cases h_; exact Ob.f rfl .n fun N => (O.mv rfl)
                        | 3, h_ => cases h_; exact Ob.f rfl .n fun N => (OpOk.le (O.lt rfl rfl) (is_eq (decide_eq_false hc1)))
                        | 4, h_ => cases h_; exact Ob.f rfl .n fun N => (O.mv rfl)
                        | 5, h_ => cases h_; exact Ob.f rfl (.g rfl rfl) fun N => (O.fa rfl fld56_2 rfl)
                        | 6, h_ => cases h_; exact Ob.f rfl (.g rfl rfl) fun N => (OpOk.le (O.ld (p := kI64.is (cT d a b)) rfl (mem_app N (mem_at 0 rfl)) (Lens.snd (Lens.snd (Lens.id _))) ty3 rfl) (i64_le _))
                        | 7, h_ => cases h_; exact Ob.f rfl (.g rfl rfl) fun N => (O.mv rfl)
                        | 8, h_ => cases h_; exact Ob.f rfl (.g rfl rfl) fun N => (OpOk.le (O.eq rfl rfl) (is_eq (decide_eq_true hc2)))
                        | 9, h_ => cases h_; exact Ob.f rfl (.g rfl rfl) fun N => (O.mv rfl)
                        | 10, h_ => cases h_; exact Ob.f rfl (.g rfl rfl) fun N => (O.mv rfl)
                        | 11, h_ => cases h_; exact Ob.f rfl (.g rfl rfl) fun N => (OpOk.le (O.lt rfl rfl) (is_eq (decide_eq_false hc3)))
                        | 12, h_ => cases h_; exact Ob.f rfl (.g rfl rfl) fun N => (O.pickT rfl rfl)
                        | 13, h_ => cases h_; exact Ob.f rfl .n fun N => (O.pickF rfl rfl)
                        | 14, h_ => cases h_; exact Ob.f rfl .n fun N => (O.mv rfl)
                        | 15, h_ => cases h_; exact Ob.f rfl (.g rfl rfl) fun N => (O.mv rfl)
                        | 16, h_ => cases h_; exact Ob.f rfl (.g rfl rfl) fun N => (O.mv rfl)
                        | 17, h_ => cases h_; exact Ob.f rfl (.g rfl rfl) fun N => (O.fn fn21 (evs.c rfl (evs.c rfl evs.nil)) (c_quad_gcd a b (by omega) (by omega)))
                        | 18, h_ => cases h_; exact Ob.f rfl (.g rfl rfl) fun N => (O.fa rfl fld56_2 rfl)
                        | 19, h_ => cases h_; exact Ob.f rfl (.g rfl rfl) fun N => (OpOk.le (O.ld (p := kI64.is (cT d a b)) rfl (mem_app N (mem_at 0 rfl)) (Lens.snd (Lens.snd (Lens.id _))) ty3 rfl) (i64_le _))
                        | 20, h_ => cases h_; exact Ob.f rfl (.g rfl rfl) fun N => (O.fn fn21 (evs.c rfl (evs.c rfl evs.nil)) (c_quad_gcd (Int.gcd a b : Int) (cT d a b) (by omega) (by omega)))
                        | 21, h_ => cases h_; exact Ob.f rfl (.g rfl rfl) fun N => (OpOk.le (O.ne rfl rfl) (is_eq (decide_eq_true hg)))
                        | 22, h_ => cases h_; exact Ob.f rfl .n fun N => (O.pickF rfl rfl)
                        | 23, h_ => cases h_; exact Ob.f rfl .n fun N => (O.mv rfl)
                        | 24, h_ => cases h_; exact Ob.ku (b := true) rfl rfl rfl
                        | 25, h_ => cases h_; exact Ob.ku (b := true) rfl rfl rfl
                        | 26, h_ => cases h_; exact Ob.ku (b := true) rfl rfl rfl
                        | 27, h_ => cases h_; exact Ob.f rfl .n fun N => (O.pickT rfl rfl)
                        | n_ + 28, h_ => simp at h_
                      refine WP.nil ?_
                      refine QE.next ?_
                      refine CW.condT rfl ?_
                      refine CW.exit ?_
                      refine QE.thenE ?_
                      refine QE.blkH ?_
                      refine QE.next ?_
                      refine CW.region ?_
                      refine WP.s .n (O.mv rfl) ?_
                      refine WP.s .n (O.add rfl rfl (c := (b + 1)) (w64 (by omega))) ?_
                      refine WP.s .n (O.asg rfl) ?_
                      refine WP.nil ?_
                      refine ST.obtold 1 rfl (OB.row_eq (ys := (out ++ rowT d a (b + 1 - (1 - a)).toNat)) (rowT_no hb1 (fun h => hg h.2.2.2))) ?_
                      exact QE.round2 (b + 1) v (by omega) (by omega) (Imp.cons rfl (Imp.cons rfl (Imp.cons rfl (Imp.cons rfl Imp.nil)))) (OImp.os (OS.skip (OS.keepLe (OB.row_eq (by first | rfl | omega | assumption)) OS.nil)))
                · by_cases hg : ((Int.gcd (Int.gcd a b : Int) (cT d a b) : Nat) : Int) = 1
                  · refine CW.draw (Γ := [.fr (VP.ex (.pointer (some ⟨b1, 2, none⟩))), .fr ((kInt .i64).is (cT d a b)), .fr ((kInt .i64).is a), .fr (kBool.is false), .fr (kBool.is false), .fr (VP.ex (.pointer (some ⟨b1, 2, none⟩))), .fr ((kInt .i64).is (cT d a b)), .fr ((kInt .i64).is a), .fr (kBool.is false), .fr (kBool.is false), .fr (VP.ex undef), .fr (VP.ex undef), .fr (kBool.is false), .fr (kBool.is false), .fr (kBool.is false), .fr ((kInt .i64).is a), .fr ((kInt .i64).is b), .fr ((kInt .i64).is (Int.gcd a b : Int)), .fr (VP.ex (.pointer (some ⟨b1, 2, none⟩))), .fr ((kInt .i64).is (cT d a b)), .fr ((kInt .i64).is (Int.gcd (Int.gcd a b : Int) (cT d a b) : Int)), .fr (kBool.is false), .fr (kBool.is false), .fr (kBool.is false), .fr (VP.ex v), .fr ((kPair kI64 (kPair kI64 kI64)).is (a, (b, (cT d a b)))), .fr (kBool.is false), .fr (kBool.is false)]) (lates := [false, false, false, false, false, false, false, false, false, false, false, false, false, false, false, false, false, false, false, false, false, false, false, false, false, false, false, false]) (by kernel_rfl) (Chk.of rfl (by kernel_rfl) rfl) (fun _ _ _ _ _ h => h) (fun q_ x_ h_ => ?_) (fun σ5 => ?_)
                    · match q_, h_ with
                      | 0, h_ => cases h_; exact Ob.f rfl .n fun N => (O.fa rfl fld56_2 rfl)
                      | 1, h_ => cases h_; exact Ob.f rfl .n fun N => (OpOk.le (O.ld (p := kI64.is (cT d a b)) rfl (mem_app N (mem_at 0 rfl)) (Lens.snd (Lens.snd (Lens.id _))) ty3 rfl) (i64_le _))
                      | 2, h_ => cases h_; exact Ob.f rfl .n fun N => (O.mv rfl)
                      | 3, h_ => cases h_; exact Ob.f rfl .n fun N => (OpOk.le (O.lt rfl rfl) (is_eq (decide_eq_false hc1)))
                      | 4, h_ => cases h_; exact Ob.f rfl .n fun N => (O.mv rfl)
                      | 5, h_ => cases h_; exact Ob.f rfl (.g rfl rfl) fun N => (O.fa rfl fld56_2 rfl)
                      | 6, h_ => cases h_; exact Ob.f rfl (.g rfl rfl) fun N => (OpOk.le (O.ld (p := kI64.is (cT d a b)) rfl (mem_app N (mem_at 0 rfl)) (Lens.snd (Lens.snd (Lens.id _))) ty3 rfl) (i64_le _))
                      | 7, h_ => cases h_; exact Ob.f rfl (.g rfl rfl) fun N => (O.mv rfl)
                      | 8, h_ => cases h_; exact Ob.f rfl (.g rfl rfl) fun N => (OpOk.le (O.eq rfl rfl) (is_eq (decide_eq_false hc2)))
                      | 9, h_ => cases h_; exact Ob.f rfl (.g rfl rfl) fun N => (O.mv rfl)
                      | 10, h_ => cases h_; exact Ob.ku (b := false) rfl rfl rfl
                      | 11, h_ => cases h_; exact Ob.ku (b := false) rfl rfl rfl
                      | 12, h_ => cases h_; exact Ob.f rfl (.g rfl rfl) fun N => (O.pickF rfl rfl)
                      | 13, h_ => cases h_; exact Ob.f rfl .n fun N => (O.pickF rfl rfl)
                      | 14, h_ => cases h_; exact Ob.f rfl .n fun N => (O.mv rfl)
                      | 15, h_ => cases h_; exact Ob.f rfl (.g rfl rfl) fun N => (O.mv rfl)
                      | 16, h_ => cases h_; exact Ob.f rfl (.g rfl rfl) fun N => (O.mv rfl)
                      | 17, h_ => cases h_; exact Ob.f rfl (.g rfl rfl) fun N => (O.fn fn21 (evs.c rfl (evs.c rfl evs.nil)) (c_quad_gcd a b (by omega) (by omega)))
                      | 18, h_ => cases h_; exact Ob.f rfl (.g rfl rfl) fun N => (O.fa rfl fld56_2 rfl)
                      | 19, h_ => cases h_; exact Ob.f rfl (.g rfl rfl) fun N => (OpOk.le (O.ld (p := kI64.is (cT d a b)) rfl (mem_app N (mem_at 0 rfl)) (Lens.snd (Lens.snd (Lens.id _))) ty3 rfl) (i64_le _))
                      | 20, h_ => cases h_; exact Ob.f rfl (.g rfl rfl) fun N => (O.fn fn21 (evs.c rfl (evs.c rfl evs.nil)) (c_quad_gcd (Int.gcd a b : Int) (cT d a b) (by omega) (by omega)))
                      | 21, h_ => cases h_; exact Ob.f rfl (.g rfl rfl) fun N => (OpOk.le (O.ne rfl rfl) (is_eq (decide_eq_false (fun h => h hg))))
                      | 22, h_ => cases h_; exact Ob.f rfl .n fun N => (O.pickF rfl rfl)
                      | 23, h_ => cases h_; exact Ob.f rfl .n fun N => (O.mv rfl)
                      | 24, h_ => cases h_; exact Ob.f rfl (.g rfl rfl) fun N => (O.mv rfl)
                      | 25, h_ => cases h_; exact Ob.f rfl (.g rfl rfl) fun N => (O.ld (p := (kPair kI64 (kPair kI64 kI64)).is (a, (b, (cT d a b)))) rfl (mem_app N (mem_at 0 rfl)) (Lens.id _) ty56 rfl)
                      | 26, h_ => cases h_; exact Ob.f rfl (.g rfl rfl) fun N => (O.fn1 (b := OB.row v 56 (kPair kI64 (kPair kI64 kI64)) (out ++ rowT d a (b - (1 - a)).toNat)) (mem_app N (mem_at 1 rfl)) fn22 (evs.c rfl (evs.c rfl evs.nil)) (c_sl_Contains v (out ++ rowT d a (b - (1 - a)).toNat) (a, (b, (cT d a b))) (of_decide_eq_false (clR_not hC hb1))))
                      | 27, h_ => cases h_; exact Ob.f rfl .n fun N => (O.pickF rfl rfl)
                      | n_ + 28, h_ => simp at h_
                    refine WP.nil ?_
                    refine QE.next ?_
                    refine CW.condF rfl ?_
                    refine CW.skip ?_
                    refine QE.next ?_
                    refine CW.region ?_
                    refine WP.s .n (O.mv rfl) ?_
                    refine WP.s .n (O.ld (p := (kPair kI64 (kPair kI64 kI64)).is (a, (b, (cT d a b)))) rfl (mem_at 0 rfl) (Lens.id _) ty56 rfl) ?_
                    refine WP.s .n (O.bs Try.underlying54 el56_pr_int_pr_int_int__ (evl.c rfl evl.n) rfl (by decide)) ?_
                    refine WP.ap 1 .n rfl rfl rfl (VP.le_refl _) Try.underlying54 el56_pr_int_pr_int_int__ (by simp; omega) fun v3 => ?_
                    refine WP.s .n (O.asg rfl) ?_
                    refine WP.nil ?_
                    refine QE.blkN ?_
                    refine QE.next ?_
                    refine CW.region ?_
                    refine WP.s .n (O.mv rfl) ?_
                    refine WP.s .n (O.add rfl rfl (c := (b + 1)) (w64 (by omega))) ?_
                    refine WP.s .n (O.asg rfl) ?_
                    refine WP.nil ?_
                    refine ST.obtold 1 rfl (OB.row_eq (ys := (out ++ rowT d a (b + 1 - (1 - a)).toNat)) (rowT_yes hb1 ⟨hm0, hc1, (fun h => hc2 h.1), hg⟩)) ?_
                    exact QE.round2 (b + 1) v3 (by omega) (by omega) (Imp.cons rfl (Imp.cons rfl (Imp.cons rfl (Imp.cons rfl Imp.nil)))) (OImp.os (OS.skip (OS.keepLe (OB.row_eq (by first | rfl | omega | assumption)) OS.nil)))
                  · refine CW.draw (Γ := [.fr (VP.ex (.pointer (some ⟨b1, 2, none⟩))), .fr ((kInt .i64).is (cT d a b)), .fr ((kInt .i64).is a), .fr (kBool.is false), .fr (kBool.is false), .fr (VP.ex (.pointer (some ⟨b1, 2, none⟩))), .fr ((kInt .i64).is (cT d a b)), .fr ((kInt .i64).is a), .fr (kBool.is false), .fr (kBool.is false), .fr (VP.ex undef), .fr (VP.ex undef), .fr (kBool.is false), .fr (kBool.is false), .fr (kBool.is false), .fr ((kInt .i64).is a), .fr ((kInt .i64).is b), .fr ((kInt .i64).is (Int.gcd a b : Int)), .fr (VP.ex (.pointer (some ⟨b1, 2, none⟩))), .fr ((kInt .i64).is (cT d a b)), .fr ((kInt .i64).is (Int.gcd (Int.gcd a b : Int) (cT d a b) : Int)), .fr (kBool.is true), .fr (kBool.is true), .fr (kBool.is true), .fr (VP.ex undef), .fr (VP.ex undef), .fr (VP.ex undef), .fr (kBool.is true)]) (lates := [false, false, false, false, false, false, false, false, false, false, false, false, false, false, false, false, false, false, false, false, false, false, false, false, false, false, false, false]) (by kernel_rfl) (Chk.of rfl (by kernel_rfl) rfl) (fun _ _ _ _ _ h => h) (fun q_ x_ h_ => ?_) (fun σ6 => ?_)
                    · match q_, h_ with
                      | 0, h_ => cases h_; exact Ob.f rfl .n fun N => (O.fa rfl fld56_2 rfl)
                      | 1, h_ => cases h_; exact Ob.f rfl .n fun N => (OpOk.le (O.ld (p := kI64.is (cT d a b)) rfl (mem_app N (mem_at 0 rfl)) (Lens.snd (Lens.snd (Lens.id _))) ty3 rfl) (i64_le _))
                      | 2, h_ => cases h_; exact Ob.f rfl .n fun N => (O.mv rfl)
                      | 3, h_ => cases h_; exact Ob.f rfl .n fun N => (OpOk.le (O.lt rfl rfl) (is_eq (decide_eq_false hc1)))
                      | 4, h_ => cases h_; exact Ob.f rfl .n fun N => (O.mv rfl)
                      | 5, h_ => cases h_; exact Ob.f rfl (.g rfl rfl) fun N => (O.fa rfl fld56_2 rfl)
                      | 6, h_ => cases h_; exact Ob.f rfl (.g rfl rfl) fun N => (OpOk.le (O.ld (p := kI64.is (cT d a b)) rfl (mem_app N (mem_at 0 rfl)) (Lens.snd (Lens.snd (Lens.id _))) ty3 rfl) (i64_le _))
                      | 7, h_ => cases h_; exact Ob.f rfl (.g rfl rfl) fun N => (O.mv rfl)
                      | 8, h_ => cases h_; exact Ob.f rfl (.g rfl rfl) fun N => (OpOk.le (O.eq rfl rfl) (is_eq (decide_eq_false hc2)))
                      | 9, h_ => cases h_; exact Ob.f rfl (.g rfl rfl) fun N => (O.mv rfl)
                      | 10, h_ => cases h_; exact Ob.ku (b := false) rfl rfl rfl
                      | 11, h_ => cases h_; exact Ob.ku (b := false) rfl rfl rfl
                      | 12, h_ => cases h_; exact Ob.f rfl (.g rfl rfl) fun N => (O.pickF rfl rfl)
                      | 13, h_ => cases h_; exact Ob.f rfl .n fun N => (O.pickF rfl rfl)
                      | 14, h_ => cases h_; exact Ob.f rfl .n fun N => (O.mv rfl)
                      | 15, h_ => cases h_; exact Ob.f rfl (.g rfl rfl) fun N => (O.mv rfl)
                      | 16, h_ => cases h_; exact Ob.f rfl (.g rfl rfl) fun N => (O.mv rfl)
                      | 17, h_ => cases h_; exact Ob.f rfl (.g rfl rfl) fun N => (O.fn fn21 (evs.c rfl (evs.c rfl evs.nil)) (c_quad_gcd a b (by omega) (by omega)))
                      | 18, h_ => cases h_; exact Ob.f rfl (.g rfl rfl) fun N => (O.fa rfl fld56_2 rfl)
                      | 19, h_ => cases h_; exact Ob.f rfl (.g rfl rfl) fun N => (OpOk.le (O.ld (p := kI64.is (cT d a b)) rfl (mem_app N (mem_at 0 rfl)) (Lens.snd (Lens.snd (Lens.id _))) ty3 rfl) (i64_le _))
                      | 20, h_ => cases h_; exact Ob.f rfl (.g rfl rfl) fun N => (O.fn fn21 (evs.c rfl (evs.c rfl evs.nil)) (c_quad_gcd (Int.gcd a b : Int) (cT d a b) (by omega) (by omega)))
                      | 21, h_ => cases h_; exact Ob.f rfl (.g rfl rfl) fun N => (OpOk.le (O.ne rfl rfl) (is_eq (decide_eq_true hg)))
                      | 22, h_ => cases h_; exact Ob.f rfl .n fun N => (O.pickF rfl rfl)
                      | 23, h_ => cases h_; exact Ob.f rfl .n fun N => (O.mv rfl)
                      | 24, h_ => cases h_; exact Ob.ku (b := true) rfl rfl rfl
                      | 25, h_ => cases h_; exact Ob.ku (b := true) rfl rfl rfl
                      | 26, h_ => cases h_; exact Ob.ku (b := true) rfl rfl rfl
                      | 27, h_ => cases h_; exact Ob.f rfl .n fun N => (O.pickT rfl rfl)
                      | n_ + 28, h_ => simp at h_
                    refine WP.nil ?_
                    refine QE.next ?_
                    refine CW.condT rfl ?_
                    refine CW.exit ?_
                    refine QE.thenE ?_
                    refine QE.blkH ?_
                    refine QE.next ?_
                    refine CW.region ?_
                    refine WP.s .n (O.mv rfl) ?_
                    refine WP.s .n (O.add rfl rfl (c := (b + 1)) (w64 (by omega))) ?_
                    refine WP.s .n (O.asg rfl) ?_
                    refine WP.nil ?_
                    refine ST.obtold 1 rfl (OB.row_eq (ys := (out ++ rowT d a (b + 1 - (1 - a)).toNat)) (rowT_no hb1 (fun h => hg h.2.2.2))) ?_
                    exact QE.round2 (b + 1) v (by omega) (by omega) (Imp.cons rfl (Imp.cons rfl (Imp.cons rfl (Imp.cons rfl Imp.nil)))) (OImp.os (OS.skip (OS.keepLe (OB.row_eq (by first | rfl | omega | assumption)) OS.nil)))
          · refine CW.exit ?_
            refine QE.thenE ?_
            refine QE.thenE ?_
            refine QE.blkH ?_
            refine QE.blkN ?_
            refine QE.next ?_
            refine CW.region ?_
            refine WP.s .n (O.mv rfl) ?_
            refine WP.s .n (O.add rfl rfl (c := (a + 1)) (w64 (by omega))) ?_
            refine WP.s .n (O.asg rfl) ?_
            refine WP.nil ?_
            exact QE.round3 (a + 1) (out ++ rowT d a (b - (1 - a)).toNat) v (by omega) (clR_s hd1 hC h3 (by omega)) (Imp.cons rfl (Imp.cons rfl (Imp.cons rfl Imp.nil))) (OImp.refl _)
        · have h3 : ¬ 3 * a * a ≤ -d := by omega
          refine CW.exit ?_
          refine QE.thenE ?_
          refine QE.thenE ?_
          refine QE.blkH ?_
          refine QE.next ?_
          refine CW.seq ?_
          have hln := listT_len hC
          have hend := clR_end hC h3
          rw [hend] at hln
          refine ST.obtold 0 rfl (OB.row_eq (ys := ((listT d))) hend) ?_
          refine ST.freeze 0 rfl (.keep (i := 0) rfl (.hit (i := 4) rfl (.keep (i := 5) rfl (.keep (i := 24) rfl (.keep (i := 25) rfl (.keep (i := 26) rfl (.keep (i := 27) rfl (.keep (i := 28) rfl (.keep (i := 29) rfl (.keep (i := 30) rfl .nil)))))))))) ?_
          refine CW.region ?_
          refine WP.s .n (O.mv rfl) ?_
          refine WP.s .n (O.fn fn23 (evs.c rfl (evs.c rfl evs.nil)) (c_sl_Sort ((listT d)) (listT_rise d) (by omega))) ?_
          refine WP.nil ?_
          refine QE.next ?_
          refine CW.seq ?_
          refine CW.region ?_
          refine WP.s .n (O.asg rfl) ?_
          refine WP.nil ?_
          refine QE.next ?_
          refine CW.seq ?_
          refine CW.seq ?_
          refine CW.region ?_
          refine WP.s .n (O.mv rfl) ?_
          refine WP.s .n (O.lenS rfl Try.underlying54) ?_
          refine WP.s .n (O.mv rfl) ?_
          refine WP.nil ?_
          refine QE.next ?_
          refine CW.block ?_
          refine ST.nilrow 26 (kPair kC (kPair kC kC)) ?_
          refine CW.loop2 (fun (i : Nat) (v : Value) => i ≤ (listT d).length) (fun (i : Nat) (v : Value) => [(8, VP.ex v), (95, (kSl (kPair kI64 (kPair kI64 kI64))).is (listT d)), (96, (kInt .i64).is ((listT d).length : Int)), (97, (kInt .i64).is (i : Int))]) (fun (i : Nat) (v : Value) => [OB.row v 26 (kPair kC (kPair kC kC)) ((listT d).take i)]) (fun (i : Nat) (v : Value) => (listT d).length - i) 0 (.slice none 0 0) (by omega) (Imp.cons rfl (Imp.consLe rfl (is_eq (y := listT d) (by first | rfl | omega | assumption)) (Imp.consLe rfl (is_eq (y := ((listT d).length : Int)) (by first | rfl | omega | assumption)) (Imp.consLe rfl (is_eq (y := (0 : Int)) (by first | rfl | omega | assumption)) Imp.nil)))) (OImp.os (OS.keepLe (OB.row_eq (by first | rfl | omega | assumption)) OS.nil)) ?_
          intro i v hi
          refine CW.seq ?_
          refine CW.region ?_
          refine WP.s .n (O.lt rfl rfl) ?_
          refine WP.nil ?_
          refine QE.next ?_
          refine CW.seq ?_
          refine CW.condD rfl (fun h_t98 => ?_) (fun h_t98 => ?_)
          · have hx := listT_bd hd1 hd2 (getD_memT (d := (0, 0, 0)) (show i < (listT d).length by omega))
            refine CW.skip ?_
            refine QE.next ?_
            refine CW.seq ?_
            refine CW.block ?_
            refine CW.seq ?_
            refine CW.region ?_
            refine WP.s .n (O.ix i rfl rfl Try.underlying54 ty56 rfl (v := ((listT d).getD i (0, (0, 0)))) (gd (0, (0, 0)) (by omega))) ?_
            refine WP.s .n (O.ldP rfl ty56) ?_
            refine WP.al .n z56_pr_int_pr_int_int__ fun b4 => ?_
            refine WP.t .n (O.stW (l := (kPair kI64 (kPair kI64 kI64))) (u := ((listT d).getD i (0, (0, 0)))) 0 rfl rfl rfl ty56 rfl (VP.le_refl _)) ?_
            refine WP.nil ?_
            refine QE.next ?_
            refine CW.draw (Γ := [.fr (VP.ex v), .fr (VP.ex (.pointer (some ⟨b4, 0, none⟩))), .fr ((kInt .i64).is (((listT d).getD i (0, (0, 0))).1)), .fr (kC.is (((listT d).getD i (0, (0, 0))).1)), .fr (VP.ex (.pointer (some ⟨b4, 1, none⟩))), .fr ((kInt .i64).is ((((listT d).getD i (0, (0, 0))).2).1)), .fr (kC.is ((((listT d).getD i (0, (0, 0))).2).1)), .fr (VP.ex (.pointer (some ⟨b4, 2, none⟩))), .fr ((kInt .i64).is ((((listT d).getD i (0, (0, 0))).2).2)), .fr (kC.is ((((listT d).getD i (0, (0, 0))).2).2)), .fr ((kPair kC (kPair kC kC)).is (((listT d).getD i (0, (0, 0))).1, ((((listT d).getD i (0, (0, 0))).2).1, (((listT d).getD i (0, (0, 0))).2).2))), .fr ((kSl (kPair kC (kPair kC kC))).is [(((listT d).getD i (0, (0, 0))).1, ((((listT d).getD i (0, (0, 0))).2).1, (((listT d).getD i (0, (0, 0))).2).2))])]) (lates := [false, false, false, false, false, false, false, false, false, false, false, false]) (by kernel_rfl) (Chk.of rfl (by kernel_rfl) rfl) (fun _ _ _ _ _ h => h) (fun q_ x_ h_ => ?_) (fun σ7 => ?_)
            · match q_, h_ with
              | 0, h_ => cases h_; exact Ob.f rfl .n fun N => (O.mv rfl)
              | 1, h_ => cases h_; exact Ob.f rfl .n fun N => (O.fa rfl fld56_0 rfl)
              | 2, h_ => cases h_; exact Ob.f rfl .n fun N => (OpOk.le (O.ld rfl (mem_app N (mem_at 0 rfl)) (Lens.fst (Lens.id _)) ty3 rfl) (i64_le _))
              | 3, h_ => cases h_; exact Ob.f rfl .n fun N => (O.fn fn11 (evs.l rfl (i64_int (by omega)) evs.nil) (c_zint_Of (((listT d).getD i (0, (0, 0))).1)))
              | 4, h_ => cases h_; exact Ob.f rfl .n fun N => (O.fa rfl fld56_1 rfl)
              | 5, h_ => cases h_; exact Ob.f rfl .n fun N => (OpOk.le (O.ld rfl (mem_app N (mem_at 0 rfl)) (Lens.snd (Lens.fst (Lens.id _))) ty3 rfl) (i64_le _))
              | 6, h_ => cases h_; exact Ob.f rfl .n fun N => (O.fn fn11 (evs.l rfl (i64_int (by omega)) evs.nil) (c_zint_Of ((((listT d).getD i (0, (0, 0))).2).1)))
              | 7, h_ => cases h_; exact Ob.f rfl .n fun N => (O.fa rfl fld56_2 rfl)
              | 8, h_ => cases h_; exact Ob.f rfl .n fun N => (OpOk.le (O.ld rfl (mem_app N (mem_at 0 rfl)) (Lens.snd (Lens.snd (Lens.id _))) ty3 rfl) (i64_le _))
              | 9, h_ => cases h_; exact Ob.f rfl .n fun N => (O.fn fn11 (evs.l rfl (i64_int (by omega)) evs.nil) (c_zint_Of ((((listT d).getD i (0, (0, 0))).2).2)))
              | 10, h_ => cases h_; exact Ob.f rfl .n fun N => (O.bld lit26_pr_C_pr_C_C__ rfl (evp.c rfl (evp.c rfl (evp.c rfl evp.n))) (.cons rfl (Lens.fst (Lens.id _)) (.cons rfl (Lens.snd (Lens.fst (Lens.id _))) (.cons rfl (Lens.snd (Lens.snd (Lens.id _))) (.nil _)))))
              | 11, h_ => cases h_; exact Ob.f rfl .n fun N => (O.bs Try.underlying37 el26_pr_C_pr_C_C__ (evl.c rfl evl.n) rfl (by decide))
              | n_ + 12, h_ => simp at h_
            refine WP.ap 1 .n rfl rfl rfl (VP.le_refl _) Try.underlying37 el26_pr_C_pr_C_C__ (by simp; omega) fun v5 => ?_
            refine WP.s .n (O.asg rfl) ?_
            refine WP.nil ?_
            refine QE.blkN ?_
            refine QE.next ?_
            refine CW.region ?_
            refine WP.s .n (O.add rfl rfl (c := ((i : Int) + 1)) (w64 (by omega))) ?_
            refine WP.s .n (O.mv rfl) ?_
            refine WP.nil ?_
            refine ST.obtold 1 rfl (OB.row_eq (ys := ((listT d).take (i + 1))) (take_app (d := (0, 0, 0)) (by omega))) ?_
            exact QE.round2 (i + 1) v5 (by omega) (by omega) (Imp.cons rfl (Imp.cons rfl (Imp.cons rfl (Imp.consLe rfl (is_eq (y := (((i + 1) : Nat) : Int)) (by first | rfl | omega | assumption)) Imp.nil)))) (OImp.os (OS.skip (OS.keep OS.nil)))
          · refine CW.exit ?_
            refine QE.thenE ?_
            refine QE.thenE ?_
            refine QE.blkH ?_
            refine QE.next ?_
            refine CW.seq ?_
            refine CW.region ?_
            refine WP.s .n (O.mv rfl) ?_
            refine WP.s .n (O.asg rfl) ?_
            refine WP.s .n (O.asg rfl) ?_
            refine WP.nil ?_
            refine QE.next ?_
            refine CW.ret ?_
            refine ST.freeze 0 rfl (.hit (i := 2) rfl (.keep (i := 3) rfl (.hit (i := 8) rfl (.keep (i := 95) rfl (.keep (i := 96) rfl (.keep (i := 97) rfl (.keep (i := 98) rfl (.hit (i := 115) rfl .nil)))))))) ?_
            have hV := clV_2 (d := d) (by omega)
            refine ST.told 2 rfl (is_eq (y := ((clV d).1)) (by rw [hV, List.take_of_length_le (by omega)])) ?_
            refine ST.told 3 rfl (is_eq (y := ((clV d).2)) (by rw [hV])) ?_
            exact QE.done (.inl rfl) rfl (ResOk.t rfl (ResOk.t rfl ResOk.nil)) (OImp.sub (List.nil_sublist _)) ⟨rfl, rfl⟩

end Fw


/- Plain facts: determinants of fractions by expansion along the first row, on lists of columns. -/
set_option linter.unusedVariables false
set_option linter.unusedSimpArgs false
namespace Fw
open Go

abbrev Col := Nat → Rat
def ctl (c : Col) : Col := fun i => c (i + 1)
/-- the column x + t y -/
def clin (x : Col) (t : Rat) (y : Col) : Col := fun i => x i + t * y i
theorem ctl_lin (x : Col) (t : Rat) (y : Col) : ctl (clin x t y) = clin (ctl x) t (ctl y) := rfl
/-- the sum over the columns behind p, with signs in turn: the column's first entry times f of the others -/
def altS (f : List Col → Rat) : List Col → List Col → Rat
  | _, [] => 0
  | p, c :: q => c 0 * f (p ++ q) - altS f (p ++ [c]) q
def dt : Nat → List Col → Rat
  | 0, [] => 1
  | 0, _ :: _ => 0
  | n + 1, L => altS (fun M => dt n (M.map ctl)) [] L

/-! ### Linear in each column -/
def Lin (f : List Col → Rat) : Prop := ∀ p x t y q, f (p ++ clin x t y :: q) = f (p ++ x :: q) + t * f (p ++ y :: q)
theorem altS_linA {f} (hf : Lin f) (x : Col) (t : Rat) (y : Col) (p : List Col) : ∀ q r, altS f (p ++ clin x t y :: r) q = altS f (p ++ x :: r) q + t * altS f (p ++ y :: r) q
  | [], r => by simp only [altS]; grind
  | c :: q, r => by
    have h1 := hf p x t y (r ++ q)
    have h2 := altS_linA hf x t y p q (r ++ [c])
    simp only [altS, List.append_assoc, List.cons_append] at *
    rw [h1, h2]; grind
theorem altS_lin {f} (hf : Lin f) (x : Col) (t : Rat) (y : Col) (q : List Col) : ∀ a p, altS f p (a ++ clin x t y :: q) = altS f p (a ++ x :: q) + t * altS f p (a ++ y :: q)
  | [], p => by
    have h1 := altS_linA hf x t y p q []
    simp only [altS, List.nil_append, clin] at *
    rw [h1]; grind
  | c :: a, p => by
    have h1 := hf (p ++ a) x t y q
    have h2 := altS_lin hf x t y q a (p ++ [c])
    simp only [altS, List.append_assoc, List.cons_append] at *
    rw [h1, h2]; grind
theorem dt_lin : ∀ n, Lin (dt n)
  | 0 => fun p x t y q => by cases p <;> simp [dt] <;> grind
  | n + 1 => fun p x t y q => by
    have hf : Lin (fun M => dt n (M.map ctl)) := fun p x t y q => by
      have := dt_lin n (p.map ctl) (ctl x) t (ctl y) (q.map ctl)
      simpa only [List.map_append, List.map_cons, ctl_lin] using this
    exact altS_lin hf x t y q p []

/-! ### Two equal neighbours give nothing -/
def Adj (f : List Col → Rat) : Prop := ∀ p x q, f (p ++ x :: x :: q) = 0
theorem altS_adjA {f} (hf : Adj f) (x : Col) (p : List Col) : ∀ q r, altS f (p ++ x :: x :: r) q = 0
  | [], r => by simp only [altS]
  | c :: q, r => by
    have h1 := hf p x (r ++ q)
    have h2 := altS_adjA hf x p q (r ++ [c])
    simp only [altS, List.append_assoc, List.cons_append] at *
    rw [h1, h2]; grind
theorem altS_adj {f} (hf : Adj f) (x : Col) (q : List Col) : ∀ a p, altS f p (a ++ x :: x :: q) = 0
  | [], p => by
    have h1 := altS_adjA hf x p q []
    simp only [altS, List.nil_append, List.append_assoc, List.cons_append] at *
    rw [h1]; grind
  | c :: a, p => by
    have h1 := hf (p ++ a) x q
    have h2 := altS_adj hf x q a (p ++ [c])
    simp only [altS, List.append_assoc, List.cons_append] at *
    rw [h1, h2]; grind
theorem dt_adj : ∀ n, Adj (dt n)
  | 0 => fun p x q => by cases p <;> simp [dt]
  | n + 1 => fun p x q => by
    have hf : Adj (fun M => dt n (M.map ctl)) := fun p x q => by
      have := dt_adj n (p.map ctl) (ctl x) (q.map ctl)
      simpa only [List.map_append, List.map_cons] using this
    exact altS_adj hf x q p []
theorem dt_swap (n) (p : List Col) (x y : Col) (q : List Col) : dt n (p ++ x :: y :: q) = - dt n (p ++ y :: x :: q) := by
  have hl := dt_lin n
  have ha := dt_adj n p (clin x 1 y) q
  have h1 := hl p x 1 y (clin x 1 y :: q)
  have h2 := hl (p ++ [x]) x 1 y q
  have h3 := hl (p ++ [y]) x 1 y q
  have h4 := dt_adj n p x q
  have h5 := dt_adj n p y q
  simp only [List.append_assoc, List.cons_append, List.nil_append] at *
  rw [h2, h3] at h1; rw [h1] at ha; grind
theorem dt_eq (n) (x : Col) (q : List Col) : ∀ m p, dt n (p ++ x :: (m ++ x :: q)) = 0
  | [], p => dt_adj n p x q
  | y :: m, p => by
    have h1 := dt_swap n p x y (m ++ x :: q)
    have h2 := dt_eq n x q m (p ++ [y])
    simp only [List.append_assoc, List.cons_append, List.nil_append] at *
    rw [h1, h2]; rfl
/-- a multiple of the first column may be added to each of the others -/
theorem dt_ops (n) (x : Col) (s : Col → Rat) : ∀ q p, dt n (x :: (p ++ q.map (fun c => clin c (s c) x))) = dt n (x :: (p ++ q))
  | [], p => rfl
  | c :: q, p => by
    have h1 := dt_lin n (x :: p) c (s c) x (q.map (fun c => clin c (s c) x))
    have h2 := dt_eq n x (q.map (fun c => clin c (s c) x)) p []
    have h3 := dt_ops n x s q (p ++ [c])
    simp only [List.append_assoc, List.cons_append, List.nil_append, List.map_cons] at *
    rw [h1, h2, h3]; grind

/-! ### The first pivot taken out -/
theorem altS_zero (f) : ∀ q p, (∀ c ∈ q, c 0 = (0 : Rat)) → altS f p q = 0
  | [], p, h => rfl
  | c :: q, p, h => by
    have h1 := altS_zero f q (p ++ [c]) (fun d hd => h d (List.mem_cons_of_mem _ hd))
    have h2 := h c (List.mem_cons_self ..)
    simp only [altS, h1, h2]; grind
/-- Schur's complement: the column c behind the pivot column x -/
def schur (x c : Col) : Col := fun i => c (i + 1) - x (i + 1) * c 0 / x 0
theorem dt_schur (n) (x : Col) (q : List Col) (hx : x 0 ≠ 0) : dt (n + 1) (x :: q) = x 0 * dt n (q.map (schur x)) := by
  have h1 := dt_ops (n + 1) x (fun c => - (c 0 / x 0)) q []
  simp only [List.nil_append] at h1
  rw [← h1]; simp only [dt, altS, List.nil_append]
  rw [altS_zero]
  · rw [List.map_map]
    have : (ctl ∘ fun c : Col => clin c (- (c 0 / x 0)) x) = schur x := by
      funext c i; simp only [Function.comp, ctl, clin, schur]; grind
    rw [this]; grind
  · intro d hd
    obtain ⟨c, hc, rfl⟩ := List.mem_map.mp hd
    simp only [clin]; grind

/-! ### Whole entries give a whole determinant -/
def IsI (q : Rat) : Prop := ∃ z : Int, q = (z : Rat)
theorem IsI.add {a b} : IsI a → IsI b → IsI (a + b) := fun ⟨x, hx⟩ ⟨y, hy⟩ => ⟨x + y, by rw [hx, hy, Rat.intCast_add]⟩
theorem IsI.sub {a b} : IsI a → IsI b → IsI (a - b) := fun ⟨x, hx⟩ ⟨y, hy⟩ => ⟨x - y, by rw [hx, hy, Rat.intCast_sub]⟩
theorem IsI.mul {a b} : IsI a → IsI b → IsI (a * b) := fun ⟨x, hx⟩ ⟨y, hy⟩ => ⟨x * y, by rw [hx, hy, Rat.intCast_mul]⟩
def IC (c : Col) : Prop := ∀ i, IsI (c i)
theorem altS_int {f} (hf : ∀ M : List Col, (∀ c ∈ M, IC c) → IsI (f M)) : ∀ q p, (∀ c ∈ q, IC c) → (∀ c ∈ p, IC c) → IsI (altS f p q)
  | [], p, h, g => ⟨0, rfl⟩
  | c :: q, p, h, g => by
    have h1 := altS_int hf q (p ++ [c]) (fun d hd => h d (List.mem_cons_of_mem _ hd)) (fun d hd => by
      rcases List.mem_append.mp hd with h1 | h1
      · exact g d h1
      · rw [List.mem_singleton.mp h1]; exact h c (List.mem_cons_self ..))
    refine IsI.sub (IsI.mul (h c (List.mem_cons_self ..) 0) (hf _ ?_)) h1
    intro d hd
    rcases List.mem_append.mp hd with h1 | h1
    · exact g d h1
    · exact h d (List.mem_cons_of_mem _ h1)
theorem dt_int : ∀ n (L : List Col), (∀ c ∈ L, IC c) → IsI (dt n L)
  | 0, [], _ => ⟨1, rfl⟩
  | 0, _ :: _, _ => ⟨0, rfl⟩
  | n + 1, L, h => altS_int (fun M hM => dt_int n _ (fun d hd => by
      obtain ⟨c, hc, rfl⟩ := List.mem_map.mp hd
      exact fun i => hM c hc (i + 1))) L [] h (fun c hc => by cases hc)

/-! ### Gram-Schmidt by steps -/
/-- the matrix behind k steps; entry (i, j) with i, j ≥ k -/
def gsE (G : Nat → Nat → Rat) : Nat → Nat → Nat → Rat
  | 0 => G
  | k + 1 => fun i j => gsE G k i j - gsE G k i k * gsE G k k j / gsE G k k k
/-- the product of the first k pivots -/
def gsD (G : Nat → Nat → Rat) : Nat → Rat
  | 0 => 1
  | k + 1 => gsD G k * gsE G k k k
/-- one step at the front, and the rest moved up -/
def gsN (G : Nat → Nat → Rat) : Nat → Nat → Rat := fun i j => G (i + 1) (j + 1) - G (i + 1) 0 * G 0 (j + 1) / G 0 0
theorem gsE_front (G) : ∀ k i j, gsE G (k + 1) (i + 1) (j + 1) = gsE (gsN G) k i j
  | 0, i, j => rfl
  | k + 1, i, j => by
    have h := gsE_front G k
    show gsE G (k + 1) (i + 1) (j + 1) - gsE G (k + 1) (i + 1) (k + 1) * gsE G (k + 1) (k + 1) (j + 1) / gsE G (k + 1) (k + 1) (k + 1) = gsE (gsN G) k i j - gsE (gsN G) k i k * gsE (gsN G) k k j / gsE (gsN G) k k k
    rw [h, h, h, h]
theorem gsD_front (G) : ∀ k, gsD G (k + 1) = G 0 0 * gsD (gsN G) k
  | 0 => by simp only [gsD, gsE]; grind
  | k + 1 => by
    have h := gsD_front G k
    show gsD G (k + 1) * gsE G (k + 1) (k + 1) (k + 1) = G 0 0 * (gsD (gsN G) k * gsE (gsN G) k k k)
    rw [h, gsE_front]; grind
/-- column j of G with its row i in place of row k -/
def gsC (G : Nat → Nat → Rat) (k i : Nat) (j : Nat) : Col := fun r => if r = k then G i j else G r j
/-- the pivots' product times the entry is a determinant -/
theorem gs_det : ∀ (k : Nat) (G : Nat → Nat → Rat), (∀ l, l < k → gsE G l l l ≠ 0) → ∀ i j, k ≤ i → k ≤ j → gsD G k * gsE G k i j = dt (k + 1) ((List.range k).map (gsC G k i) ++ [gsC G k i j])
  | 0, G, h, i, j, hi, hj => by simp [gsD, gsE, dt, altS, gsC]; grind
  | k + 1, G, h, i, j, hi, hj => by
    obtain ⟨i, rfl⟩ : ∃ i', i = i' + 1 := ⟨i - 1, by omega⟩
    obtain ⟨j, rfl⟩ : ∃ j', j = j' + 1 := ⟨j - 1, by omega⟩
    have h0 : G 0 0 ≠ 0 := h 0 (by omega)
    have hn := gs_det k (gsN G) (fun l hl => by rw [← gsE_front]; exact h (l + 1) (by omega)) i j (by omega) (by omega)
    rw [gsD_front, gsE_front, Rat.mul_assoc, hn, List.range_succ_eq_map, List.map_cons, List.cons_append]
    have hx : gsC G (k + 1) (i + 1) 0 0 = G 0 0 := by simp [gsC]
    rw [dt_schur _ _ _ (by rw [hx]; exact h0), hx]
    congr 2
    rw [List.map_append, List.map_map, List.map_map]
    have e : ∀ l, schur (gsC G (k + 1) (i + 1) 0) (gsC G (k + 1) (i + 1) (l + 1)) = gsC (gsN G) k i l := by
      intro l; funext r; simp only [schur, gsC, gsN]
      by_cases hr : r = k
      · subst hr; simp
      · simp [hr]
    congr 1
    · apply List.map_congr_left; intro l _; exact (e l).symm
    · simp only [List.map_cons, List.map_nil]; rw [e]
/-- whole entries: the pivots' product times an entry is whole -/
theorem gs_int {G : Nat → Nat → Rat} (hG : ∀ i j, IsI (G i j)) (k : Nat) (h : ∀ l, l < k → gsE G l l l ≠ 0) {i j : Nat} (hi : k ≤ i) (hj : k ≤ j) : IsI (gsD G k * gsE G k i j) := by
  rw [gs_det k G h i j hi hj]
  apply dt_int
  have hc : ∀ j, IC (gsC G k i j) := fun j r => by simp only [gsC]; split <;> exact hG _ _
  intro c hc'
  rcases List.mem_append.mp hc' with h1 | h1
  · obtain ⟨l, _, rfl⟩ := List.mem_map.mp h1; exact hc l
  · rw [List.mem_singleton.mp h1]; exact hc j
end Fw


/- Plain facts: the whole data of Gram-Schmidt, step by step: their quotients leave nothing. -/
set_option linter.unusedVariables false
set_option linter.unusedSimpArgs false
namespace Fw
open Go

/-- the program's numbers: u behind k steps at (i, j) -/
def uE (G : Nat → Nat → Int) : Nat → Nat → Nat → Int
  | 0 => G
  | k + 1 => fun i j => (uE G k k k * uE G k i j - uE G k i k * uE G k j k).fdiv (match k with | 0 => 1 | l + 1 => uE G l l l)
/-- the program's numbers D -/
def uD (G : Nat → Nat → Int) : Nat → Int
  | 0 => 1
  | l + 1 => uE G l l l
theorem uE_succ (G) (k i j) : uE G (k + 1) i j = (uD G (k + 1) * uE G k i j - uE G k i k * uE G k j k).fdiv (uD G k) := by cases k <;> rfl
/-- the matrix in fractions -/
def qG (G : Nat → Nat → Int) : Nat → Nat → Rat := fun i j => (G i j : Rat)
def SymG (G : Nat → Nat → Int) : Prop := ∀ i j, G i j = G j i
theorem gsE_sym {G : Nat → Nat → Rat} (h : ∀ i j, G i j = G j i) : ∀ k i j, gsE G k i j = gsE G k j i
  | 0, i, j => h i j
  | k + 1, i, j => by
    have h1 := gsE_sym h k
    simp only [gsE]; rw [h1 i j, h1 i k, h1 k j]; grind
/-- all pivots below k are above 0 -/
def PosU (G : Nat → Nat → Int) (k : Nat) : Prop := ∀ l, l < k → 0 < uE G l l l
theorem PosU.le {G k l} (h : PosU G k) (hl : l ≤ k) : PosU G l := fun m hm => h m (by omega)
theorem PosU.uD {G k} (h : PosU G k) : ∀ {l}, l ≤ k → 0 < uD G l
  | 0, _ => by show (0 : Int) < 1; decide
  | l + 1, hl => h l (by omega)
theorem fdiv_ex {a b c : Int} (hc : c ≠ 0) (h : a = b * c) : a.fdiv c = b := by
  rw [h]; exact Int.mul_fdiv_cancel _ hc
theorem rat_ne {a : Int} (h : a ≠ 0) : (a : Rat) ≠ 0 := fun e => h (by exact_mod_cast e)
structure UGs (G : Nat → Nat → Int) (k : Nat) : Prop where
  d : ((uD G k : Int) : Rat) = gsD (qG G) k
  e : ∀ i j, k ≤ i → k ≤ j → ((uE G k i j : Int) : Rat) = gsD (qG G) k * gsE (qG G) k i j
  x : ∀ l, l < k → ∀ i j, l ≤ i → l ≤ j → l < i → l < j → uE G (l + 1) i j * uD G l = uD G (l + 1) * uE G l i j - uE G l i l * uE G l j l
  p : ∀ l, l < k → gsE (qG G) l l l ≠ 0
theorem ugs {G : Nat → Nat → Int} (hs : SymG G) : ∀ k, PosU G k → UGs G k
  | 0, _ => ⟨rfl, fun i j _ _ => by simp only [uE, gsD, gsE, qG]; grind, fun l hl => by omega, fun l hl => by omega⟩
  | k + 1, hp => by
    have ih := ugs hs k (hp.le (by omega))
    have hsq : ∀ i j, qG G i j = qG G j i := fun i j => by simp only [qG]; rw [hs i j]
    have hd0 : uD G k ≠ 0 := by have := hp.uD (show k ≤ k + 1 by omega); omega
    have hdq : gsD (qG G) k ≠ 0 := by rw [← ih.d]; exact rat_ne hd0
    have hk : uE G k k k ≠ 0 := by have := hp k (by omega); omega
    have hek := ih.e k k (Nat.le_refl _) (Nat.le_refl _)
    have hpk : gsE (qG G) k k k ≠ 0 := fun e => by rw [e] at hek; exact rat_ne hk (by rw [hek]; grind)
    have hpiv : ∀ l, l < k + 1 → gsE (qG G) l l l ≠ 0 := fun l hl => by
      by_cases h : l < k
      · exact ih.p l h
      · have : l = k := by omega
        subst this; exact hpk
    have hd1 : ((uD G (k + 1) : Int) : Rat) = gsD (qG G) (k + 1) := by
      show ((uE G k k k : Int) : Rat) = _
      rw [hek]; rfl
    have hex : ∀ i j, k < i → k < j → ∃ z : Int, uD G (k + 1) * uE G k i j - uE G k i k * uE G k j k = z * uD G k ∧ (z : Rat) = gsD (qG G) (k + 1) * gsE (qG G) (k + 1) i j := by
      intro i j hi hj
      obtain ⟨z, hz⟩ := gs_int (G := qG G) (fun i j => ⟨G i j, rfl⟩) (k + 1) hpiv (show k + 1 ≤ i by omega) (show k + 1 ≤ j by omega)
      refine ⟨z, ?_, hz.symm⟩
      have e1 := ih.e i j (by omega) (by omega)
      have e2 := ih.e i k (by omega) (by omega)
      have e3 := ih.e j k (by omega) (by omega)
      have e4 : gsE (qG G) k j k = gsE (qG G) k k j := gsE_sym hsq k j k
      have : (((uD G (k + 1) * uE G k i j - uE G k i k * uE G k j k : Int)) : Rat) = ((z * uD G k : Int) : Rat) := by
        rw [Rat.intCast_sub, Rat.intCast_mul, Rat.intCast_mul, Rat.intCast_mul, hd1, e1, e2, e3, e4, ← hz, ih.d]
        simp only [gsD, gsE]; grind
      exact_mod_cast this
    refine ⟨hd1, fun i j hi hj => ?_, fun l hl i j h1 h2 h3 h4 => ?_, hpiv⟩
    · obtain ⟨z, h1, h2⟩ := hex i j (by omega) (by omega)
      rw [uE_succ, fdiv_ex hd0 h1, h2]
    · by_cases h : l < k
      · exact ih.x l h i j h1 h2 h3 h4
      · have : l = k := by omega
        subst this
        obtain ⟨z, h5, h6⟩ := hex i j h3 h4
        rw [uE_succ, fdiv_ex hd0 h5, ← h5]

end Fw


/- Plain facts: fractions in lowest terms and their sums, products, quotients, as Lean's own fractions. -/
set_option linter.unusedVariables false
set_option linter.unusedSimpArgs false
namespace Fw
open Go

/-- numerator and denominator -/
def rq (q : Rat) : Int × Int := (q.num, (q.den : Int))
theorem rq_den_pos (q : Rat) : 0 < (rq q).2 := by have := q.den_pos; simp only [rq]; omega
theorem rq_den_ne (q : Rat) : (rq q).2 ≠ 0 := by have := rq_den_pos q; omega
theorem rq_val (q : Rat) : (((rq q).1 : Int) : Rat) / (((rq q).2 : Int) : Rat) = q := by
  rw [← Rat.divInt_eq_div]; exact Rat.num_divInt_den q
theorem rmk_rq {n d : Int} (hd : d ≠ 0) : rmk n d = rq ((n : Rat) / (d : Rat)) := by
  rw [← Rat.divInt_eq_div]
  simp only [rmk, rq, Rat.num_divInt, Rat.den_divInt, if_neg hd]
  have hg : (0 : Int) ≤ (Int.gcd n d : Int) := by omega
  rw [Int.fdiv_eq_ediv_of_nonneg _ hg, Int.fdiv_eq_ediv_of_nonneg _ hg, Int.mul_comm n, Int.gcd_comm d n]
  refine Prod.ext rfl ?_
  simp only [Int.natCast_ediv]
theorem rq_int (n : Int) : rq (n : Rat) = (n, 1) := by simp [rq]
theorem rq_mul (p q : Rat) : rmk ((rq p).1 * (rq q).1) ((rq p).2 * (rq q).2) = rq (p * q) := by
  have h1 := rq_den_ne p; have h2 := rq_den_ne q
  rw [rmk_rq (Int.mul_ne_zero h1 h2)]
  congr 1
  rw [Rat.intCast_mul, Rat.intCast_mul]
  have e1 := rq_val p; have e2 := rq_val q
  have := rat_ne h1; have := rat_ne h2
  generalize (((rq p).1 : Int) : Rat) = a at *; generalize (((rq p).2 : Int) : Rat) = b at *; generalize (((rq q).1 : Int) : Rat) = c at *; generalize (((rq q).2 : Int) : Rat) = d at *
  subst e1 e2; grind
/-- what a fraction u / d in lowest terms is at most -/
theorem rmk_num_le {n d : Int} (hd : d ≠ 0) : (rmk n d).1.natAbs ≤ n.natAbs := by
  simp only [rmk]
  have hg : (0 : Int) ≤ (Int.gcd n d : Int) := by omega
  rw [Int.fdiv_eq_ediv_of_nonneg _ hg]
  refine Nat.le_trans (Int.natAbs_ediv_le_natAbs ..) ?_
  rw [Int.natAbs_mul, Int.natAbs_sign, if_neg hd]; omega
theorem rmk_den_le {n d : Int} (hd : d ≠ 0) : (rmk n d).2.natAbs ≤ d.natAbs := by
  simp only [rmk]
  have hg : (0 : Int) ≤ (Int.gcd n d : Int) := by omega
  rw [Int.fdiv_eq_ediv_of_nonneg _ hg]
  refine Nat.le_trans (Int.natAbs_ediv_le_natAbs ..) ?_
  omega

end Fw


/- Plain facts: sizes of fractions. -/
set_option linter.unusedVariables false
set_option linter.unusedSimpArgs false
set_option exponentiation.threshold 400
namespace Fw
open Go

/-- numerator and denominator of at most n bits -/
structure RZ (n : Nat) (q : Rat) : Prop where
  a : Sz n (rq q).1
  b : Sz n (rq q).2
theorem RZ.up {n m q} (h : RZ n q) (hm : n ≤ m) : RZ m q := ⟨h.a.up hm, h.b.up hm⟩
theorem RZ.neg {n q} (h : RZ n q) : RZ n (-q) := by
  refine ⟨?_, ?_⟩
  · have : (rq (-q)).1 = -(rq q).1 := rfl
    rw [this]; exact h.a.neg
  · exact h.b
theorem RZ.of {k : Nat} {n d : Int} {q : Rat} (hd : d ≠ 0) (h : rmk n d = rq q) (h1 : Sz k n) (h2 : Sz k d) : RZ k q :=
  ⟨h1.le (by rw [← h]; exact rmk_num_le hd), h2.le (by rw [← h]; exact rmk_den_le hd)⟩
theorem RZ.mul {n m p q} (h : RZ n p) (k : RZ m q) : RZ (n + m) (p * q) :=
  RZ.of (Int.mul_ne_zero (rq_den_ne p) (rq_den_ne q)) (rq_mul p q) (h.a.mul k.a) (h.b.mul k.b)
theorem RZ.int {n : Nat} {z : Int} (h : Sz (n + 1) z) : RZ (n + 1) (z : Rat) := by
  refine ⟨?_, ?_⟩
  · rw [rq_int]; exact h
  · rw [rq_int]
    show (1 : Int).natAbs < 2 ^ (n + 1)
    have := Nat.one_lt_two_pow (n := n + 1) (by omega)
    simp
end Fw


/- What the fractions of the document answer. -/
set_option linter.unusedVariables false
set_option linter.unusedSimpArgs false
set_option exponentiation.threshold 400
namespace Fw
open Go Go.Proofs

end Fw


/- Plain facts: the sum of the products of two rows. -/
set_option linter.unusedVariables false
set_option linter.unusedSimpArgs false
set_option exponentiation.threshold 400
namespace Fw
open Go

/-- the first i products' sum -/
def dotN (u v : List Int) : Nat → Int
  | 0 => 0
  | i + 1 => dotN u v i + u.getD i 0 * v.getD i 0
def dotV (u v : List Int) : Int := dotN u v u.length
/-- entries of at most n bits -/
def SzL (n : Nat) (u : List Int) : Prop := ∀ i, Sz n (u.getD i 0)
theorem Sz.add1 {n : Nat} {x y : Int} (h : Sz n x) (k : Sz n y) : Sz (n + 1) (x + y) := by
  have := Sz.max h k
  have e : Nat.max n n = n := Nat.max_self n
  rwa [e] at this
theorem dotN_Sz {n m u v} (hu : SzL n u) (hv : SzL m v) : ∀ i, Sz (n + m + i) (dotN u v i)
  | 0 => Sz.zero _
  | i + 1 => by
    have h1 := dotN_Sz hu hv i
    have h2 := ((hu i).mul (hv i)).up (show n + m ≤ n + m + i by omega)
    exact Sz.add1 h1 h2
end Fw


/- Products of rows: what the functions answer. -/
set_option linter.unusedVariables false
set_option linter.unusedSimpArgs false
set_option exponentiation.threshold 400
namespace Fw
open Go Go.Proofs

set_option maxRecDepth 20000 in
set_option maxHeartbeats 1000000 in
theorem c_mat_dot (n : Nat) (u v : List Int) (hu : SzL n u) (hv : SzL n v) (hn : n + n + u.length ≤ 549755813000) (hl : u.length ≤ v.length) : Fn Try.prog 63 [(kSl kZ).is u, (kSl kZ).is v] (kC.is (dotV u v)) := by
  refine Con.enter Try.func63 rfl rfl fun m w => ?_
  refine ST.fact (i := 0) rfl sl_len fun hB => ?_
  refine CW.seq ?_
  refine CW.region ?_
  refine WP.al .n z24_C fun b1 => ?_
  refine WP.nil ?_
  refine QE.next ?_
  refine CW.seq ?_
  refine CW.region ?_
  refine WP.al .n z24_C fun b2 => ?_
  refine WP.nil ?_
  refine QE.next ?_
  refine CW.seq ?_
  refine CW.seq ?_
  refine CW.region ?_
  refine WP.s .n (O.mv rfl) ?_
  refine WP.s .n (O.lenS rfl Try.underlying42) ?_
  refine WP.s .n (O.mv rfl) ?_
  refine WP.nil ?_
  refine QE.next ?_
  refine CW.block ?_
  refine CW.loop (fun (i : Nat) => i ≤ u.length) (fun (i : Nat) => [(0, (kSl kZ).is u), (1, (kSl kZ).is v), (4, VP.ex (.pointer (some ⟨b1, 0, none⟩))), (5, VP.ex (.pointer (some ⟨b2, 0, none⟩))), (7, (kSl kZ).is u), (8, (kInt .i64).is (u.length : Int)), (9, (kInt .i64).is (i : Int))]) (fun (i : Nat) => [OB.box b2 24 kC (dotN u v i), OB.box b1 24 kC 0]) (fun (i : Nat) => u.length - i) 0 (by omega) (Imp.cons rfl (Imp.cons rfl (Imp.cons rfl (Imp.cons rfl (Imp.cons rfl (Imp.cons rfl (Imp.consLe rfl (is_eq (y := (0 : Int)) (by first | rfl | omega | assumption)) Imp.nil))))))) (OImp.os (OS.keepLe (OB.box_eq (by first | rfl | omega | assumption)) (OS.keep OS.nil))) ?_
  intro i hi
  refine CW.seq ?_
  refine CW.region ?_
  refine WP.s .n (O.lt rfl rfl) ?_
  refine WP.nil ?_
  refine QE.next ?_
  refine CW.seq ?_
  refine CW.condD rfl (fun h_t10 => ?_) (fun h_t10 => ?_)
  · refine CW.skip ?_
    refine QE.next ?_
    refine CW.seq ?_
    refine CW.block ?_
    refine CW.seq ?_
    refine CW.region ?_
    refine WP.s .n (O.mv rfl) ?_
    refine WP.s .n (O.asg rfl) ?_
    refine WP.nil ?_
    refine QE.next ?_
    refine CW.draw (Γ := [.fr (kC.is (dotN u v i)), .fr ((kSl kZ).is u), .fr ((kInt .i64).is (i : Int)), .fr (VP.pim kZ (u.getD i 0)), .fr (kZ.is (u.getD i 0)), .fr ((kSl kZ).is v), .fr ((kInt .i64).is (i : Int)), .fr (VP.pim kZ (v.getD i 0)), .fr (kZ.is (v.getD i 0)), .fr (kC.is ((u.getD i 0) * (v.getD i 0))), .fr (kC.is ((dotN u v i) + ((u.getD i 0) * (v.getD i 0))))]) (lates := [false, false, false, false, false, false, false, false, false, false, false]) (by kernel_rfl) (Chk.of rfl (by kernel_rfl) rfl) (fun _ _ _ _ _ h => h) (fun q_ x_ h_ => ?_) (fun σ1 => ?_)
    · match q_, h_ with
      | 0, h_ => cases h_; exact Ob.f rfl .n fun N => (O.ld rfl (mem_app N (mem_at 0 rfl)) (Lens.id _) ty24 rfl)
      | 1, h_ => cases h_; exact Ob.f rfl .n fun N => (O.mv rfl)
      | 2, h_ => cases h_; exact Ob.f rfl .n fun N => (O.mv rfl)
      | 3, h_ => cases h_; exact Ob.f rfl .n fun N => (O.ix i rfl rfl Try.underlying42 ty24 rfl (v := (u.getD i 0)) (gd 0 (by omega)))
      | 4, h_ => cases h_; exact Ob.f rfl .n fun N => (O.ldP rfl ty24)
      | 5, h_ => cases h_; exact Ob.f rfl .n fun N => (O.mv rfl)
      | 6, h_ => cases h_; exact Ob.f rfl .n fun N => (O.mv rfl)
      | 7, h_ => cases h_; exact Ob.f rfl .n fun N => (O.ix i rfl rfl Try.underlying42 ty24 rfl (v := (v.getD i 0)) (gd 0 (by omega)))
      | 8, h_ => cases h_; exact Ob.f rfl .n fun N => (O.ldP rfl ty24)
      | 9, h_ => cases h_; exact Ob.f rfl .n fun N => (O.fn fn20 (evs.c rfl (evs.c rfl evs.nil)) (c_zint_Mul (u.getD i 0) (v.getD i 0)))
      | 10, h_ => cases h_; exact Ob.f rfl .n fun N => (O.fn fn32 (evs.l rfl (kC_Z (by first | exact (hu i).sm (by omega) | exact (hv i).sm (by omega) | exact (dotN_Sz hu hv i).sm (by omega) | exact ((hu i).mul (hv i)).sm (by omega))) (evs.l rfl (kC_Z (by first | exact (hu i).sm (by omega) | exact (hv i).sm (by omega) | exact (dotN_Sz hu hv i).sm (by omega) | exact ((hu i).mul (hv i)).sm (by omega))) evs.nil)) (c_zint_Add (dotN u v i) ((u.getD i 0) * (v.getD i 0))))
      | n_ + 11, h_ => simp at h_
    refine WP.t .n (O.stW (l := kC) (u := (dotN u v i) + ((u.getD i 0) * (v.getD i 0))) 0 rfl rfl rfl ty24 rfl (VP.le_refl _)) ?_
    refine WP.nil ?_
    refine QE.blkN ?_
    refine QE.next ?_
    refine CW.region ?_
    refine WP.s .n (O.add rfl rfl (c := ((i : Int) + 1)) (w64 (by omega))) ?_
    refine WP.s .n (O.mv rfl) ?_
    refine WP.nil ?_
    refine ST.obtold 0 rfl (OB.box_eq (y := (dotN u v (i + 1))) rfl) ?_
    exact QE.round (i + 1) (by omega) (by omega) (Imp.cons rfl (Imp.cons rfl (Imp.cons rfl (Imp.cons rfl (Imp.cons rfl (Imp.cons rfl (Imp.consLe rfl (is_eq (y := (((i + 1) : Nat) : Int)) (by first | rfl | omega | assumption)) Imp.nil))))))) (OImp.refl _)
  · refine CW.exit ?_
    refine QE.thenE ?_
    refine QE.thenE ?_
    refine QE.blkH ?_
    refine QE.next ?_
    refine CW.seq ?_
    refine CW.region ?_
    refine WP.s .n (O.ld rfl (mem_at 0 rfl) (Lens.id _) ty24 rfl) ?_
    refine WP.t .n (O.stW (l := kC) (u := (dotN u v i)) 1 rfl rfl rfl ty24 rfl (VP.le_refl _)) ?_
    refine WP.nil ?_
    refine QE.next ?_
    refine CW.ret ?_
    refine ST.obtold 1 rfl (OB.box_eq (y := (dotV u v)) (by rw [show i = u.length by omega]; rfl)) ?_
    exact QE.done (.inl rfl) rfl (ResOk.c rfl (mem_at 1 rfl) ty24 ResOk.nil) (OImp.sub (List.nil_sublist _)) ⟨rfl, rfl⟩

set_option maxRecDepth 20000 in
set_option maxHeartbeats 1000000 in
theorem c_mat_Dot (n : Nat) (u v : List Int) (hu : SzL n u) (hv : SzL n v) (hn : n + n + u.length ≤ 549755813000) : Fn Try.prog 45 [(kSl kZ).is u, (kSl kZ).is v] (VP.tup [kC.is (if u.length = v.length then dotV u v else 0), (kInt .i64).is (if u.length = v.length then 0 else 8)]) := by
  refine Con.enter Try.func45 rfl rfl fun m w => ?_
  refine ST.fact (i := 0) rfl sl_len fun hB => ?_
  refine ST.fact (i := 1) rfl sl_len fun hC => ?_
  refine CW.seq ?_
  refine CW.region ?_
  refine WP.al .n z24_C fun b1 => ?_
  refine WP.s .n (O.asg rfl) ?_
  refine WP.nil ?_
  refine QE.next ?_
  refine CW.seq ?_
  refine CW.seq ?_
  refine CW.region ?_
  refine WP.s .n (O.mv rfl) ?_
  refine WP.s .n (O.lenS rfl Try.underlying42) ?_
  refine WP.s .n (O.mv rfl) ?_
  refine WP.s .n (O.lenS rfl Try.underlying42) ?_
  refine WP.s .n (O.ne rfl rfl) ?_
  refine WP.nil ?_
  refine QE.next ?_
  refine CW.condD rfl (fun h_t10 => ?_) (fun h_t10 => ?_)
  · refine CW.seq ?_
    refine CW.region ?_
    refine WP.s .n (O.bld lit24_C rfl evp.n (.nil _)) ?_
    refine WP.t .n (O.stW (l := kC) (u := 0) 0 rfl rfl rfl ty24 rfl (VP.le_refl _)) ?_
    refine WP.s .n (O.asg rfl) ?_
    refine WP.nil ?_
    refine QE.next ?_
    refine CW.ret ?_
    refine QE.thenR ?_
    have hne : u.length ≠ v.length := by omega
    refine ST.obtold 0 rfl (OB.box_eq (y := (if u.length = v.length then dotV u v else 0)) (by rw [if_neg hne])) ?_
    refine ST.told 5 rfl (is_eq (y := (if u.length = v.length then 0 else 8)) (by rw [if_neg hne])) ?_
    exact QE.done (.inl rfl) rfl (ResOk.c rfl (mem_at 0 rfl) ty24 (ResOk.t rfl ResOk.nil)) (OImp.sub (List.nil_sublist _)) ⟨rfl, rfl⟩
  · refine CW.skip ?_
    refine QE.next ?_
    refine CW.seq ?_
    refine CW.region ?_
    refine WP.s .n (O.mv rfl) ?_
    refine WP.s .n (O.mv rfl) ?_
    refine WP.s .n (O.fn fn63 (evs.c rfl (evs.c rfl evs.nil)) (c_mat_dot n u v (by first | assumption | omega) (by first | assumption | omega) (by first | assumption | omega) (by first | assumption | omega))) ?_
    refine WP.t .n (O.stW (l := kC) (u := dotV u v) 0 rfl rfl rfl ty24 rfl (VP.le_refl _)) ?_
    refine WP.s .n (O.asg rfl) ?_
    refine WP.nil ?_
    refine QE.next ?_
    refine CW.ret ?_
    have hne : u.length = v.length := by omega
    refine ST.obtold 0 rfl (OB.box_eq (y := (if u.length = v.length then dotV u v else 0)) (by rw [if_pos hne])) ?_
    refine ST.told 5 rfl (is_eq (y := (if u.length = v.length then 0 else 8)) (by rw [if_pos hne])) ?_
    exact QE.done (.inl rfl) rfl (ResOk.c rfl (mem_at 0 rfl) ty24 (ResOk.t rfl ResOk.nil)) (OImp.sub (List.nil_sublist _)) ⟨rfl, rfl⟩

end Fw


/- Plain facts: rows of one length; the order of rows; the first entry that is not 0. -/
set_option linter.unusedVariables false
set_option linter.unusedSimpArgs false
namespace Fw
open Go

theorem gde {α : Type} (l : List α) (d : α) {i : Nat} (h : i < l.length) : l.getD i d = l[i] := by simp [List.getD, h]
/-- rows of one length -/
def rect (b : List (List Int)) : Bool := b.all (fun r => r.length == (b.getD 0 []).length)
theorem rect_iff {b : List (List Int)} : rect b = true ↔ ∀ i, i < b.length → (b.getD i []).length = (b.getD 0 []).length := by
  simp only [rect, List.all_eq_true, beq_iff_eq]
  constructor
  · intro h i hi
    rw [gde _ _ hi]; exact h _ (List.getElem_mem hi)
  · intro h r hr
    obtain ⟨i, hi, rfl⟩ := List.mem_iff_getElem.mp hr
    rw [← h i hi, gde _ _ hi]
theorem rect_no {b : List (List Int)} {i : Nat} (hi : i < b.length) (h : (b.getD i []).length ≠ (b.getD 0 []).length) : ¬ rect b = true := fun e => h (rect_iff.1 e i hi)
/-- what Shape answers -/
def shN (b : List (List Int)) : Int := if rect b = true then (b.length : Int) else 0
def shM (b : List (List Int)) : Int := if rect b = true then ((b.getD 0 []).length : Int) else 0
def shE (b : List (List Int)) : Int := if rect b = true then 0 else 8
theorem sh_no {b : List (List Int)} {i : Nat} (hi : i < b.length) (h : (b.getD i []).length ≠ (b.getD 0 []).length) : shN b = 0 ∧ shM b = 0 ∧ shE b = 8 := by
  have := rect_no hi h
  simp only [shN, shM, shE, if_neg this]; simp
theorem sh_yes {b : List (List Int)} (h : ∀ i, i < b.length → (b.getD i []).length = (b.getD 0 []).length) : shN b = (b.length : Int) ∧ shM b = ((b.getD 0 []).length : Int) ∧ shE b = 0 := by
  have := rect_iff.2 h
  simp only [shN, shM, shE, if_pos this]; simp
theorem sh_nil {b : List (List Int)} (h : b.length = 0) : shN b = 0 ∧ shM b = 0 ∧ shE b = 0 := by
  have : b = [] := List.eq_nil_of_length_eq_zero h
  subst this; decide
end Fw

