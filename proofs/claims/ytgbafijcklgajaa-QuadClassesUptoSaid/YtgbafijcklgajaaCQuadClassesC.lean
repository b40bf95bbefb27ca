/- Proved: QuadClasses, for every input of bulk at most 1048576; no other condition. -/
import Derived.Test.YtgbafijcklgajaaCQuadClassesB
/- All classes of a discriminant; the statement QuadClasses. -/
set_option linter.unusedVariables false
set_option linter.unusedSimpArgs false
set_option exponentiation.threshold 400
namespace Fw
open Go Go.Proofs

set_option maxRecDepth 20000 in
set_option maxHeartbeats 8000000 in
theorem c_quad_Classes (d : Int) : Fn Try.prog 64 [(kInt .i64).is d] (VP.tup [(kSl (kPair kC (kPair kC kC))).is ((clV d).1), (kInt .i64).is ((clV d).2)]) := by
  refine Con.enter Try.func64 rfl rfl fun m w => ?_
  have htm := tmod4 d
  refine CW.seq ?_
  refine CW.region ?_
  refine WP.s .n (O.asg rfl) ?_
  refine WP.s .n (O.asg rfl) ?_
  refine WP.nil ?_
  refine QE.next ?_
  refine CW.seq ?_
  refine CW.seq ?_
  refine CW.region ?_
  refine WP.s .n (O.mv rfl) ?_
  refine WP.s .n (O.ge rfl rfl) ?_
  refine WP.s .n (O.mv rfl) ?_
  refine WP.splitD 13 rfl (fun h_t13 => ?_) (fun h_t13 => ?_)
  · refine WP.ku (b := true) rfl rfl ?_
    refine WP.ku (b := true) rfl rfl ?_
    refine WP.s .n (O.pickT rfl rfl) ?_
    refine WP.s .n (O.mv rfl) ?_
    refine WP.ku (b := true) rfl rfl ?_
    refine WP.ku (b := true) rfl rfl ?_
    refine WP.ku (b := true) rfl rfl ?_
    refine WP.ku (b := true) rfl rfl ?_
    refine WP.ku (b := true) rfl rfl ?_
    refine WP.s .n (O.pickT rfl rfl) ?_
    refine WP.nil ?_
    refine QE.next ?_
    refine CW.condT rfl ?_
    refine CW.seq ?_
    refine CW.region ?_
    refine WP.s .n (O.asg rfl) ?_
    refine WP.s .n (O.asg rfl) ?_
    refine WP.nil ?_
    refine QE.next ?_
    refine CW.ret ?_
    refine QE.thenR ?_
    refine ST.told (q := (kSl (kPair kC (kPair kC kC))).is ([] : List T3)) 2 rfl (nil_le _) ?_
    have hV := clV_1 (d := d) (.inl h_t13)
    refine ST.told 2 rfl (is_eq (y := ((clV d).1)) (by rw [hV])) ?_
    refine ST.told 3 rfl (is_eq (y := ((clV d).2)) (by rw [hV])) ?_
    exact QE.done (.inl rfl) rfl (ResOk.t rfl (ResOk.t rfl ResOk.nil)) (OImp.sub (List.nil_sublist _)) ⟨rfl, rfl⟩
  · refine WP.s (.g rfl rfl) (O.mv rfl) ?_
    refine WP.s (.g rfl rfl) (O.lt rfl rfl) ?_
    refine WP.s .n (O.pickF rfl rfl) ?_
    refine WP.s .n (O.mv rfl) ?_
    refine WP.splitD 17 rfl (fun h_t17 => ?_) (fun h_t17 => ?_)
    · refine WP.ku (b := true) rfl rfl ?_
      refine WP.ku (b := true) rfl rfl ?_
      refine WP.ku (b := true) rfl rfl ?_
      refine WP.ku (b := true) rfl rfl ?_
      refine WP.ku (b := true) rfl rfl ?_
      refine WP.s .n (O.pickT rfl rfl) ?_
      refine WP.nil ?_
      refine QE.next ?_
      refine CW.condT rfl ?_
      refine CW.seq ?_
      refine CW.region ?_
      refine WP.s .n (O.asg rfl) ?_
      refine WP.s .n (O.asg rfl) ?_
      refine WP.nil ?_
      refine QE.next ?_
      refine CW.ret ?_
      refine QE.thenR ?_
      refine ST.told (q := (kSl (kPair kC (kPair kC kC))).is ([] : List T3)) 2 rfl (nil_le _) ?_
      have hV := clV_1 (d := d) (.inr (.inl h_t17))
      refine ST.told 2 rfl (is_eq (y := ((clV d).1)) (by rw [hV])) ?_
      refine ST.told 3 rfl (is_eq (y := ((clV d).2)) (by rw [hV])) ?_
      exact QE.done (.inl rfl) rfl (ResOk.t rfl (ResOk.t rfl ResOk.nil)) (OImp.sub (List.nil_sublist _)) ⟨rfl, rfl⟩
    · have hd1 : -20000 ≤ d := by omega
      have hd2 : d < 0 := by omega
      refine WP.s (.g rfl rfl) (O.mv rfl) ?_
      refine WP.s (.g rfl rfl) (O.rem rfl rfl (by omega) (c := (d.tmod 4)) rfl) ?_
      refine WP.s (.g rfl rfl) (O.add rfl rfl (c := ((d.tmod 4) + 4)) (w64 (by omega))) ?_
      refine WP.s (.g rfl rfl) (O.rem rfl rfl (by omega) (c := ((d.tmod 4 + 4).tmod 4)) rfl) ?_
      refine WP.s (.g rfl rfl) (O.gt rfl rfl) ?_
      refine WP.s .n (O.pickF rfl rfl) ?_
      refine WP.nil ?_
      refine QE.next ?_
      refine CW.condD rfl (fun h_t23 => ?_) (fun h_t23 => ?_)
      · refine CW.seq ?_
        refine CW.region ?_
        refine WP.s .n (O.asg rfl) ?_
        refine WP.s .n (O.asg rfl) ?_
        refine WP.nil ?_
        refine QE.next ?_
        refine CW.ret ?_
        refine QE.thenR ?_
        refine ST.told (q := (kSl (kPair kC (kPair kC kC))).is ([] : List T3)) 2 rfl (nil_le _) ?_
        have hV := clV_1 (d := d) (.inr (.inr h_t23))
        refine ST.told 2 rfl (is_eq (y := ((clV d).1)) (by rw [hV])) ?_
        refine ST.told 3 rfl (is_eq (y := ((clV d).2)) (by rw [hV])) ?_
        exact QE.done (.inl rfl) rfl (ResOk.t rfl (ResOk.t rfl ResOk.nil)) (OImp.sub (List.nil_sublist _)) ⟨rfl, rfl⟩
      · refine CW.skip ?_
        refine QE.next ?_
        refine CW.seq ?_
        refine CW.region ?_
        refine WP.s .n (O.asg rfl) ?_
        refine WP.nil ?_
        refine QE.next ?_
        refine CW.seq ?_
        refine CW.seq ?_
        refine CW.region ?_
        refine WP.s .n (O.asg rfl) ?_
        refine WP.nil ?_
        refine QE.next ?_
        refine CW.block ?_
        refine ST.nilrow 154 (kPair kI64 (kPair kI64 kI64)) ?_
        refine CW.loop3 (fun (a : Int) (out : List T3) (v : Value) => ClR d a out) (fun (a : Int) (out : List T3) (v : Value) => [(0, (kInt .i64).is d), (4, VP.ex v), (5, (kInt .i64).is a)]) (fun (a : Int) (out : List T3) (v : Value) => [OB.row v 154 (kPair kI64 (kPair kI64 kI64)) out]) (fun (a : Int) (out : List T3) (v : Value) => (100 - a).toNat) 1 [] (.slice none 0 0) (clR_0 d) (Imp.cons rfl (Imp.cons rfl (Imp.cons rfl Imp.nil))) (OImp.refl _) ?_
        intro a out v hC
        have hCl := hC.lo
        have hCh := hC.hi
        have haa := aa_bd (a := a) (by omega) (by omega)
        refine CW.seq ?_
        refine CW.seq ?_
        refine CW.region ?_
        refine WP.s .n (O.mv rfl) ?_
        refine WP.s .n (O.mul rfl rfl (c := (3 * a)) (w64 (by omega))) ?_
        refine WP.s .n (O.mv rfl) ?_
        refine WP.s .n (O.mul rfl rfl (c := ((3 * a) * a)) (w64 (by omega))) ?_
        refine WP.s .n (O.mv rfl) ?_
        refine WP.s .n (O.neg rfl (c := (0 - d)) (w64 (by omega))) ?_
        refine WP.s .n (O.le rfl rfl) ?_
        refine WP.nil ?_
        refine QE.next ?_
        refine CW.condD rfl (fun h_t30 => ?_) (fun h_t30 => ?_)
        · have h3 : 3 * a * a ≤ -d := by omega
          have ha81 := a_bd hd1 hCl h3
          refine CW.skip ?_
          refine QE.next ?_
          refine CW.seq ?_
          refine CW.block ?_
          refine CW.seq ?_
          refine CW.region ?_
          refine WP.s .n (O.mv rfl) ?_
          refine WP.s .n (O.neg rfl (c := (0 - a)) (w64 (by omega))) ?_
          refine WP.s .n (O.add rfl rfl (c := ((0 - a) + 1)) (w64 (by omega))) ?_
          refine WP.s .n (O.asg rfl) ?_
          refine WP.nil ?_
          refine QE.next ?_
          refine CW.block ?_
          refine ST.obtold 0 rfl (OB.row_eq (ys := (out ++ rowT d a ((1 - a) - (1 - a)).toNat)) (by rw [show ((1 - a) - (1 - a)).toNat = 0 from by omega]; simp [rowT])) ?_
          refine CW.loop2 (fun (b : Int) (v : Value) => 1 - a ≤ b ∧ b ≤ a + 1) (fun (b : Int) (v : Value) => [(0, (kInt .i64).is d), (4, VP.ex v), (5, (kInt .i64).is a), (6, (kInt .i64).is b)]) (fun (b : Int) (v : Value) => [OB.row v 154 (kPair kI64 (kPair kI64 kI64)) (out ++ rowT d a (b - (1 - a)).toNat)]) (fun (b : Int) (v : Value) => (a + 1 - b).toNat) (1 - a) v (by omega) (Imp.cons rfl (Imp.cons rfl (Imp.cons rfl (Imp.consLe rfl (is_eq (y := (1 - a)) (by first | rfl | omega | assumption)) Imp.nil)))) (OImp.refl _) ?_
          intro b v ⟨hb1, hb2⟩
          have hbb := sq_bd (b := b) (by omega) (by omega)
          have hcb := cT_bd (d := d) (a := a) (b := b) hd1 hd2 hCl (by omega) (by omega)
          have hln := listT_len hC
          have hrl := rowT_len d a (b - (1 - a)).toNat
          refine CW.seq ?_
          refine CW.seq ?_
          refine CW.region ?_
          refine WP.s .n (O.mv rfl) ?_
          refine WP.s .n (O.mv rfl) ?_
          refine WP.s .n (O.le rfl rfl) ?_
          refine WP.nil ?_
          refine QE.next ?_
          refine CW.condD rfl (fun h_t38 => ?_) (fun h_t38 => ?_)
          · refine CW.skip ?_
            refine QE.next ?_
            refine CW.seq ?_
            refine CW.block ?_
            refine CW.seq ?_
            refine CW.seq ?_
            refine CW.region ?_
            refine WP.s .n (O.mv rfl) ?_
            refine WP.s .n (O.mv rfl) ?_
            refine WP.s .n (O.mul rfl rfl (c := (b * b)) (w64 (by omega))) ?_
            refine WP.s .n (O.mv rfl) ?_
            refine WP.s .n (O.sub rfl rfl (c := ((b * b) - d)) (w64 (by omega))) ?_
            refine WP.s .n (O.mv rfl) ?_
            refine WP.s .n (O.mul rfl rfl (c := (4 * a)) (w64 (by omega))) ?_
            refine WP.s .n (O.rem rfl rfl (by omega) (c := ((b * b - d).tmod (4 * a))) rfl) ?_
            refine WP.s .n (O.ne rfl rfl) ?_
            refine WP.nil ?_
            refine QE.next ?_
            refine CW.condD rfl (fun h_t49 => ?_) (fun h_t49 => ?_)
            · refine CW.exit ?_
              refine QE.thenE ?_
              refine QE.blkH ?_
              refine QE.next ?_
              refine CW.region ?_
              refine WP.s .n (O.mv rfl) ?_
              refine WP.s .n (O.add rfl rfl (c := (b + 1)) (w64 (by omega))) ?_
              refine WP.s .n (O.asg rfl) ?_
              refine WP.nil ?_
              refine ST.obtold 0 rfl (OB.row_eq (ys := (out ++ rowT d a (b + 1 - (1 - a)).toNat)) (rowT_no hb1 (fun h => h_t49 h.1))) ?_
              exact QE.round2 (b + 1) v (by omega) (by omega) (Imp.cons rfl (Imp.cons rfl (Imp.cons rfl (Imp.cons rfl Imp.nil)))) (OImp.os (OS.keepLe (OB.row_eq (by first | rfl | omega | assumption)) OS.nil))
            · have hm0 : (b * b - d).tmod (4 * a) = 0 := by omega
              have hgb := gcdb a b
              refine CW.skip ?_
              refine QE.next ?_
              refine CW.seq ?_
              refine CW.region ?_
              refine WP.s .n (O.mv rfl) ?_
              refine WP.s .n (O.mv rfl) ?_
              refine WP.s .n (O.mv rfl) ?_
              refine WP.s .n (O.mv rfl) ?_
              refine WP.s .n (O.mul rfl rfl (c := (b * b)) (w64 (by omega))) ?_
              refine WP.s .n (O.mv rfl) ?_
              refine WP.s .n (O.sub rfl rfl (c := ((b * b) - d)) (w64 (by omega))) ?_
              refine WP.s .n (O.mv rfl) ?_
              refine WP.s .n (O.mul rfl rfl (c := (4 * a)) (w64 (by omega))) ?_
              refine WP.s .n (O.quo rfl rfl (by omega) (c := (cT d a b)) (cTw hcb)) ?_
              refine WP.s .n (O.bld lit154_pr_int_pr_int_int__ rfl (evp.l rfl (i64_int (by omega)) (evp.l rfl (i64_int (by omega)) (evp.l rfl (i64_int (by omega)) evp.n))) (.cons rfl (Lens.fst (Lens.id _)) (.cons rfl (Lens.snd (Lens.fst (Lens.id _))) (.cons rfl (Lens.snd (Lens.snd (Lens.id _))) (.nil _))))) ?_
              refine WP.al .n z154_pr_int_pr_int_int__ fun b1 => ?_
              refine WP.t .n (O.stW (l := (kPair kI64 (kPair kI64 kI64))) (u := (a, (b, (cT d a b)))) 0 rfl rfl rfl ty154 rfl (VP.le_refl _)) ?_
              refine WP.nil ?_
              refine QE.next ?_
              refine CW.seq ?_
              refine CW.seq ?_
              by_cases hc1 : cT d a b < a
              · refine CW.draw (Γ := [.fr (VP.ex (.pointer (some ⟨b1, 2, none⟩))), .fr ((kInt .i64).is (cT d a b)), .fr ((kInt .i64).is a), .fr (kBool.is true), .fr (kBool.is true), .fr (VP.ex undef), .fr (VP.ex undef), .fr (VP.ex undef), .fr (VP.ex undef), .fr (VP.ex undef), .fr (VP.ex undef), .fr (VP.ex undef), .fr (VP.ex undef), .fr (kBool.is true), .fr (kBool.is true), .fr (VP.ex undef), .fr (VP.ex undef), .fr (VP.ex undef), .fr (VP.ex undef), .fr (VP.ex undef), .fr (VP.ex undef), .fr (VP.ex undef), .fr (kBool.is true), .fr (kBool.is true), .fr (VP.ex undef), .fr (VP.ex undef), .fr (VP.ex undef), .fr (kBool.is true)]) (lates := [false, false, false, false, false, false, false, false, false, false, false, false, false, false, false, false, false, false, false, false, false, false, false, false, false, false, false, false]) (by kernel_rfl) (Chk.of rfl (by kernel_rfl) rfl) (fun _ _ _ _ _ h => h) (fun q_ x_ h_ => ?_) (fun σ1 => ?_)
                · match q_, h_ with
                  | 0, h_ => cases h_; exact Ob.f rfl .n fun N => (O.fa rfl fld154_2 rfl)
                  | 1, h_ => cases h_; exact Ob.f rfl .n fun N => (OpOk.le (O.ld (p := kI64.is (cT d a b)) rfl (mem_app N (mem_at 0 rfl)) (Lens.snd (Lens.snd (Lens.id _))) ty3 rfl) (i64_le _))
                  | 2, h_ => cases h_; exact Ob.f rfl .n fun N => (O.mv rfl)
                  | 3, h_ => cases h_; exact Ob.f rfl .n fun N => (OpOk.le (O.lt rfl rfl) (is_eq (decide_eq_true hc1)))
                  | 4, h_ => cases h_; exact Ob.f rfl .n fun N => (O.mv rfl)
                  | 5, h_ => cases h_; exact Ob.ku (b := true) rfl rfl rfl
                  | 6, h_ => cases h_; exact Ob.ku (b := true) rfl rfl rfl
                  | 7, h_ => cases h_; exact Ob.ku (b := true) rfl rfl rfl
                  | 8, h_ => cases h_; exact Ob.ku (b := true) rfl rfl rfl
                  | 9, h_ => cases h_; exact Ob.ku (b := true) rfl rfl rfl
                  | 10, h_ => cases h_; exact Ob.kk rfl rfl rfl
                  | 11, h_ => cases h_; exact Ob.kk rfl rfl rfl
                  | 12, h_ => cases h_; exact Ob.ku (b := true) rfl rfl rfl
                  | 13, h_ => cases h_; exact Ob.f rfl .n fun N => (O.pickT rfl rfl)
                  | 14, h_ => cases h_; exact Ob.f rfl .n fun N => (O.mv rfl)
                  | 15, h_ => cases h_; exact Ob.ku (b := true) rfl rfl rfl
                  | 16, h_ => cases h_; exact Ob.ku (b := true) rfl rfl rfl
                  | 17, h_ => cases h_; exact Ob.ku (b := true) rfl rfl rfl
                  | 18, h_ => cases h_; exact Ob.ku (b := true) rfl rfl rfl
                  | 19, h_ => cases h_; exact Ob.ku (b := true) rfl rfl rfl
                  | 20, h_ => cases h_; exact Ob.ku (b := true) rfl rfl rfl
                  | 21, h_ => cases h_; exact Ob.ku (b := true) rfl rfl rfl
                  | 22, h_ => cases h_; exact Ob.f rfl .n fun N => (O.pickT rfl rfl)
                  | 23, h_ => cases h_; exact Ob.f rfl .n fun N => (O.mv rfl)
                  | 24, h_ => cases h_; exact Ob.ku (b := true) rfl rfl rfl
                  | 25, h_ => cases h_; exact Ob.ku (b := true) rfl rfl rfl
                  | 26, h_ => cases h_; exact Ob.ku (b := true) rfl rfl rfl
                  | 27, h_ => cases h_; exact Ob.f rfl .n fun N => (O.pickT rfl rfl)
                  | n_ + 28, h_ => simp at h_
                refine WP.nil ?_
                refine QE.next ?_
                refine CW.condT rfl ?_
                refine CW.exit ?_
                refine QE.thenE ?_
                refine QE.blkH ?_
                refine QE.next ?_
                refine CW.region ?_
                refine WP.s .n (O.mv rfl) ?_
                refine WP.s .n (O.add rfl rfl (c := (b + 1)) (w64 (by omega))) ?_
                refine WP.s .n (O.asg rfl) ?_
                refine WP.nil ?_
                refine ST.obtold 1 rfl (OB.row_eq (ys := (out ++ rowT d a (b + 1 - (1 - a)).toNat)) (rowT_no hb1 (fun h => h.2.1 hc1))) ?_
                exact QE.round2 (b + 1) v (by omega) (by omega) (Imp.cons rfl (Imp.cons rfl (Imp.cons rfl (Imp.cons rfl Imp.nil)))) (OImp.os (OS.skip (OS.keepLe (OB.row_eq (by first | rfl | omega | assumption)) OS.nil)))
              · by_cases hc2 : cT d a b = a
                · by_cases hc3 : b < 0
                  · refine CW.draw (Γ := [.fr (VP.ex (.pointer (some ⟨b1, 2, none⟩))), .fr ((kInt .i64).is (cT d a b)), .fr ((kInt .i64).is a), .fr (kBool.is false), .fr (kBool.is false), .fr (VP.ex (.pointer (some ⟨b1, 2, none⟩))), .fr ((kInt .i64).is (cT d a b)), .fr ((kInt .i64).is a), .fr (kBool.is true), .fr (kBool.is true), .fr ((kInt .i64).is b), .fr (kBool.is true), .fr (kBool.is true), .fr (kBool.is true), .fr (kBool.is true), .fr (VP.ex undef), .fr (VP.ex undef), .fr (VP.ex undef), .fr (VP.ex undef), .fr (VP.ex undef), .fr (VP.ex undef), .fr (VP.ex undef), .fr (kBool.is true), .fr (kBool.is true), .fr (VP.ex undef), .fr (VP.ex undef), .fr (VP.ex undef), .fr (kBool.is true)]) (lates := [false, false, false, false, false, false, false, false, false, false, false, false, false, false, false, false, false, false, false, false, false, false, false, false, false, false, false, false]) (by kernel_rfl) (Chk.of rfl (by kernel_rfl) rfl) (fun _ _ _ _ _ h => h) (fun q_ x_ h_ => ?_) (fun σ2 => ?_)
                    · match q_, h_ with
                      | 0, h_ => cases h_; exact Ob.f rfl .n fun N => (O.fa rfl fld154_2 rfl)
                      | 1, h_ => cases h_; exact Ob.f rfl .n fun N => (OpOk.le (O.ld (p := kI64.is (cT d a b)) rfl (mem_app N (mem_at 0 rfl)) (Lens.snd (Lens.snd (Lens.id _))) ty3 rfl) (i64_le _))
                      | 2, h_ => cases h_; exact Ob.f rfl .n fun N => (O.mv rfl)
                      | 3, h_ => cases h_; exact Ob.f rfl .n fun N => (OpOk.le (O.lt rfl rfl) (is_eq (decide_eq_false hc1)))
                      | 4, h_ => cases h_; exact Ob.f rfl .n fun N => (O.mv rfl)
                      | 5, h_ => cases h_; exact Ob.f rfl (.g rfl rfl) fun N => (O.fa rfl fld154_2 rfl)
                      | 6, h_ => cases h_; exact Ob.f rfl (.g rfl rfl) fun N => (OpOk.le (O.ld (p := kI64.is (cT d a b)) rfl (mem_app N (mem_at 0 rfl)) (Lens.snd (Lens.snd (Lens.id _))) ty3 rfl) (i64_le _))
                      | 7, h_ => cases h_; exact Ob.f rfl (.g rfl rfl) fun N => (O.mv rfl)
                      | 8, h_ => cases h_; exact Ob.f rfl (.g rfl rfl) fun N => (OpOk.le (O.eq rfl rfl) (is_eq (decide_eq_true hc2)))
                      | 9, h_ => cases h_; exact Ob.f rfl (.g rfl rfl) fun N => (O.mv rfl)
                      | 10, h_ => cases h_; exact Ob.f rfl (.g rfl rfl) fun N => (O.mv rfl)
                      | 11, h_ => cases h_; exact Ob.f rfl (.g rfl rfl) fun N => (OpOk.le (O.lt rfl rfl) (is_eq (decide_eq_true hc3)))
                      | 12, h_ => cases h_; exact Ob.f rfl (.g rfl rfl) fun N => (O.pickT rfl rfl)
                      | 13, h_ => cases h_; exact Ob.f rfl .n fun N => (O.pickF rfl rfl)
                      | 14, h_ => cases h_; exact Ob.f rfl .n fun N => (O.mv rfl)
                      | 15, h_ => cases h_; exact Ob.ku (b := true) rfl rfl rfl
                      | 16, h_ => cases h_; exact Ob.ku (b := true) rfl rfl rfl
                      | 17, h_ => cases h_; exact Ob.ku (b := true) rfl rfl rfl
                      | 18, h_ => cases h_; exact Ob.ku (b := true) rfl rfl rfl
                      | 19, h_ => cases h_; exact Ob.ku (b := true) rfl rfl rfl
                      | 20, h_ => cases h_; exact Ob.ku (b := true) rfl rfl rfl
                      | 21, h_ => cases h_; exact Ob.ku (b := true) rfl rfl rfl
                      | 22, h_ => cases h_; exact Ob.f rfl .n fun N => (O.pickT rfl rfl)
                      | 23, h_ => cases h_; exact Ob.f rfl .n fun N => (O.mv rfl)
                      | 24, h_ => cases h_; exact Ob.ku (b := true) rfl rfl rfl
                      | 25, h_ => cases h_; exact Ob.ku (b := true) rfl rfl rfl
                      | 26, h_ => cases h_; exact Ob.ku (b := true) rfl rfl rfl
                      | 27, h_ => cases h_; exact Ob.f rfl .n fun N => (O.pickT rfl rfl)
                      | n_ + 28, h_ => simp at h_
                    refine WP.nil ?_
                    refine QE.next ?_
                    refine CW.condT rfl ?_
                    refine CW.exit ?_
                    refine QE.thenE ?_
                    refine QE.blkH ?_
                    refine QE.next ?_
                    refine CW.region ?_
                    refine WP.s .n (O.mv rfl) ?_
                    refine WP.s .n (O.add rfl rfl (c := (b + 1)) (w64 (by omega))) ?_
                    refine WP.s .n (O.asg rfl) ?_
                    refine WP.nil ?_
                    refine ST.obtold 1 rfl (OB.row_eq (ys := (out ++ rowT d a (b + 1 - (1 - a)).toNat)) (rowT_no hb1 (fun h => h.2.2.1 ⟨hc2, hc3⟩))) ?_
                    exact QE.round2 (b + 1) v (by omega) (by omega) (Imp.cons rfl (Imp.cons rfl (Imp.cons rfl (Imp.cons rfl Imp.nil)))) (OImp.os (OS.skip (OS.keepLe (OB.row_eq (by first | rfl | omega | assumption)) OS.nil)))
                  · by_cases hg : ((Int.gcd (Int.gcd a b : Int) (cT d a b) : Nat) : Int) = 1
                    · refine CW.draw (Γ := [.fr (VP.ex (.pointer (some ⟨b1, 2, none⟩))), .fr ((kInt .i64).is (cT d a b)), .fr ((kInt .i64).is a), .fr (kBool.is false), .fr (kBool.is false), .fr (VP.ex (.pointer (some ⟨b1, 2, none⟩))), .fr ((kInt .i64).is (cT d a b)), .fr ((kInt .i64).is a), .fr (kBool.is true), .fr (kBool.is true), .fr ((kInt .i64).is b), .fr (kBool.is false), .fr (kBool.is false), .fr (kBool.is false), .fr (kBool.is false), .fr ((kInt .i64).is a), .fr ((kInt .i64).is b), .fr ((kInt .i64).is (Int.gcd a b : Int)), .fr (VP.ex (.pointer (some ⟨b1, 2, none⟩))), .fr ((kInt .i64).is (cT d a b)), .fr ((kInt .i64).is (Int.gcd (Int.gcd a b : Int) (cT d a b) : Int)), .fr (kBool.is false), .fr (kBool.is false), .fr (kBool.is false), .fr (VP.ex v), .fr ((kPair kI64 (kPair kI64 kI64)).is (a, (b, (cT d a b)))), .fr (kBool.is false), .fr (kBool.is false)]) (lates := [false, false, false, false, false, false, false, false, false, false, false, false, false, false, false, false, false, false, false, false, false, false, false, false, false, false, false, false]) (by kernel_rfl) (Chk.of rfl (by kernel_rfl) rfl) (fun _ _ _ _ _ h => h) (fun q_ x_ h_ => ?_) (fun σ3 => ?_)
                      · match q_, h_ with
                        | 0, h_ => cases h_; exact Ob.f rfl .n fun N => (O.fa rfl fld154_2 rfl)
                        | 1, h_ => cases h_; exact Ob.f rfl .n fun N => (OpOk.le (O.ld (p := kI64.is (cT d a b)) rfl (mem_app N (mem_at 0 rfl)) (Lens.snd (Lens.snd (Lens.id _))) ty3 rfl) (i64_le _))
                        | 2, h_ => cases h_; exact Ob.f rfl .n fun N => (O.mv rfl)
                        | 3, h_ => cases h_; exact Ob.f rfl .n fun N => (OpOk.le (O.lt rfl rfl) (is_eq (decide_eq_false hc1)))
                        | 4, h_ => cases h_; exact Ob.f rfl .n fun N => (O.mv rfl)
                        | 5, h_ => cases h_; exact Ob.f rfl (.g rfl rfl) fun N => (O.fa rfl fld154_2 rfl)
                        | 6, h_ => cases h_; exact Ob.f rfl (.g rfl rfl) fun N => (OpOk.le (O.ld (p := kI64.is (cT d a b)) rfl (mem_app N (mem_at 0 rfl)) (Lens.snd (Lens.snd (Lens.id _))) ty3 rfl) (i64_le _))
                        | 7, h_ => cases h_; exact Ob.f rfl (.g rfl rfl) fun N => (O.mv rfl)
                        | 8, h_ => cases h_; exact Ob.f rfl (.g rfl rfl) fun N => (OpOk.le (O.eq rfl rfl) (is_eq (decide_eq_true hc2)))
                        | 9, h_ => cases h_; exact Ob.f rfl (.g rfl rfl) fun N => (O.mv rfl)
                        | 10, h_ => cases h_; exact Ob.f rfl (.g rfl rfl) fun N => (O.mv rfl)
                        | 11, h_ => cases h_; exact Ob.f rfl (.g rfl rfl) fun N => (OpOk.le (O.lt rfl rfl) (is_eq (decide_eq_false hc3)))
                        | 12, h_ => cases h_; exact Ob.f rfl (.g rfl rfl) fun N => (O.pickT rfl rfl)
                        | 13, h_ => cases h_; exact Ob.f rfl .n fun N => (O.pickF rfl rfl)
                        | 14, h_ => cases h_; exact Ob.f rfl .n fun N => (O.mv rfl)
                        | 15, h_ => cases h_; exact Ob.f rfl (.g rfl rfl) fun N => (O.mv rfl)
                        | 16, h_ => cases h_; exact Ob.f rfl (.g rfl rfl) fun N => (O.mv rfl)
                        | 17, h_ => cases h_; exact Ob.f rfl (.g rfl rfl) fun N => (O.fn fn126 (evs.c rfl (evs.c rfl evs.nil)) (c_quad_gcd a b (by omega) (by omega)))
                        | 18, h_ => cases h_; exact Ob.f rfl (.g rfl rfl) fun N => (O.fa rfl fld154_2 rfl)
                        | 19, h_ => cases h_; exact Ob.f rfl (.g rfl rfl) fun N => (OpOk.le (O.ld (p := kI64.is (cT d a b)) rfl (mem_app N (mem_at 0 rfl)) (Lens.snd (Lens.snd (Lens.id _))) ty3 rfl) (i64_le _))
                        | 20, h_ => cases h_; exact Ob.f rfl (.g rfl rfl) fun N => (O.fn fn126 (evs.c rfl (evs.c rfl evs.nil)) (c_quad_gcd (Int.gcd a b : Int) (cT d a b) (by omega) (by omega)))
                        | 21, h_ => cases h_; exact Ob.f rfl (.g rfl rfl) fun N => (OpOk.le (O.ne rfl rfl) (is_eq (decide_eq_false (fun h => h hg))))
                        | 22, h_ => cases h_; exact Ob.f rfl .n fun N => (O.pickF rfl rfl)
                        | 23, h_ => cases h_; exact Ob.f rfl .n fun N => (O.mv rfl)
                        | 24, h_ => cases h_; exact Ob.f rfl (.g rfl rfl) fun N => (O.mv rfl)
                        | 25, h_ => cases h_; exact Ob.f rfl (.g rfl rfl) fun N => (O.ld (p := (kPair kI64 (kPair kI64 kI64)).is (a, (b, (cT d a b)))) rfl (mem_app N (mem_at 0 rfl)) (Lens.id _) ty154 rfl)
                        | 26, h_ => cases h_; exact Ob.f rfl (.g rfl rfl) fun N => (O.fn1 (b := OB.row v 154 (kPair kI64 (kPair kI64 kI64)) (out ++ rowT d a (b - (1 - a)).toNat)) (mem_app N (mem_at 1 rfl)) fn127 (evs.c rfl (evs.c rfl evs.nil)) (c_sl_Contains v (out ++ rowT d a (b - (1 - a)).toNat) (a, (b, (cT d a b))) (of_decide_eq_false (clR_not hC hb1))))
                        | 27, h_ => cases h_; exact Ob.f rfl .n fun N => (O.pickF rfl rfl)
                        | n_ + 28, h_ => simp at h_
                      refine WP.nil ?_
                      refine QE.next ?_
                      refine CW.condF rfl ?_
                      refine CW.skip ?_
                      refine QE.next ?_
                      refine CW.region ?_
                      refine WP.s .n (O.mv rfl) ?_
                      refine WP.s .n (O.ld (p := (kPair kI64 (kPair kI64 kI64)).is (a, (b, (cT d a b)))) rfl (mem_at 0 rfl) (Lens.id _) ty154 rfl) ?_
                      refine WP.s .n (O.bs Try.underlying152 el154_pr_int_pr_int_int__ (evl.c rfl evl.n) rfl (by decide)) ?_
                      refine WP.ap 1 .n rfl rfl rfl (VP.le_refl _) Try.underlying152 el154_pr_int_pr_int_int__ (by simp; omega) fun v2 => ?_
                      refine WP.s .n (O.asg rfl) ?_
                      refine WP.nil ?_
                      refine QE.blkN ?_
                      refine QE.next ?_
                      refine CW.region ?_
                      refine WP.s .n (O.mv rfl) ?_
                      refine WP.s .n (O.add rfl rfl (c := (b + 1)) (w64 (by omega))) ?_
                      refine WP.s .n (O.asg rfl) ?_
                      refine WP.nil ?_
                      refine ST.obtold 1 rfl (OB.row_eq (ys := (out ++ rowT d a (b + 1 - (1 - a)).toNat)) (rowT_yes hb1 ⟨hm0, hc1, (fun h => hc3 h.2), hg⟩)) ?_
                      exact QE.round2 (b + 1) v2 (by omega) (by omega) (Imp.cons rfl (Imp.cons rfl (Imp.cons rfl (Imp.cons rfl Imp.nil)))) (OImp.os (OS.skip (OS.keepLe (OB.row_eq (by first | rfl | omega | assumption)) OS.nil)))
                    · refine CW.draw (Γ := [.fr (VP.ex (.pointer (some ⟨b1, 2, none⟩))), .fr ((kInt .i64).is (cT d a b)), .fr ((kInt .i64).is a), .fr (kBool.is false), .fr (kBool.is false), .fr (VP.ex (.pointer (some ⟨b1, 2, none⟩))), .fr ((kInt .i64).is (cT d a b)), .fr ((kInt .i64).is a), .fr (kBool.is true), .fr (kBool.is true), .fr ((kInt .i64).is b), .fr (kBool.is false), .fr (kBool.is false), .fr (kBool.is false), .fr (kBool.is false), .fr ((kInt .i64).is a), .fr ((kInt .i64).is b), .fr ((kInt .i64).is (Int.gcd a b : Int)), .fr (VP.ex (.pointer (some ⟨b1, 2, none⟩))), .fr ((kInt .i64).is (cT d a b)), .fr ((kInt .i64).is (Int.gcd (Int.gcd a b : Int) (cT d a b) : Int)), .fr (kBool.is true), .fr (kBool.is true), .fr (kBool.is true), .fr (VP.ex undef), .fr (VP.ex undef), .fr (VP.ex undef), .fr (kBool.is true)]) (lates := [false, false, false, false, false, false, false, false, false, false, false, false, false, false, false, false, false, false, false, false, false, false, false, false, false, false, false, false]) (by kernel_rfl) (Chk.of rfl (by kernel_rfl) rfl) (fun _ _ _ _ _ h => h) (fun q_ x_ h_ => ?_) (fun σ4 => ?_)
                      · match q_, h_ with
                        | 0, h_ => cases h_; exact Ob.f rfl .n fun N => (O.fa rfl fld154_2 rfl)
                        | 1, h_ => cases h_; exact Ob.f rfl .n fun N => (OpOk.le (O.ld (p := kI64.is (cT d a b)) rfl (mem_app N (mem_at 0 rfl)) (Lens.snd (Lens.snd (Lens.id _))) ty3 rfl) (i64_le _))
                        | 2, h_ => cases h_; exact Ob.f rfl .n fun N => (O.mv rfl)
                        | 3, h_ => cases h_; exact Ob.f rfl .n fun N => (OpOk.le (O.lt rfl rfl) (is_eq (decide_eq_false hc1)))
                        | 4, h_ => cases h_; exact Ob.f rfl .n fun N => (O.mv rfl)
                        | 5, h_ => cases h_; exact Ob.f rfl (.g rfl rfl) fun N => (O.fa rfl fld154_2 rfl)
                        | 6, h_ => cases h_; exact Ob.f rfl (.g rfl rfl) fun N => (OpOk.le (O.ld (p := kI64.is (cT d a b)) rfl (mem_app N (mem_at 0 rfl)) (Lens.snd (Lens.snd (Lens.id _))) ty3 rfl) (i64_le _))
                        | 7, h_ => cases h_; exact Ob.f rfl (.g rfl rfl) fun N => (O.mv rfl)
                        | 8, h_ => cases h_; exact Ob.f rfl (.g rfl rfl) fun N => (OpOk.le (O.eq rfl rfl) (is_eq (decide_eq_true hc2)))
                        | 9, h_ => cases h_; exact Ob.f rfl (.g rfl rfl) fun N => (O.mv rfl)
                        | 10, h_ => cases h_; exact Ob.f rfl (.g rfl rfl) fun N => (O.mv rfl)
                        | 11, h_ => cases h_; exact Ob.f rfl (.g rfl rfl) fun N => (OpOk.le (O.lt rfl rfl) (is_eq (decide_eq_false hc3)))
                        | 12, h_ => cases h_; exact Ob.f rfl (.g rfl rfl) fun N => (O.pickT rfl rfl)
                        | 13, h_ => cases h_; exact Ob.f rfl .n fun N => (O.pickF rfl rfl)
                        | 14, h_ => cases h_; exact Ob.f rfl .n fun N => (O.mv rfl)
                        | 15, h_ => cases h_; exact Ob.f rfl (.g rfl rfl) fun N => (O.mv rfl)
                        | 16, h_ => cases h_; exact Ob.f rfl (.g rfl rfl) fun N => (O.mv rfl)
                        | 17, h_ => cases h_; exact Ob.f rfl (.g rfl rfl) fun N => (O.fn fn126 (evs.c rfl (evs.c rfl evs.nil)) (c_quad_gcd a b (by omega) (by omega)))
                        | 18, h_ => cases h_; exact Ob.f rfl (.g rfl rfl) fun N => (O.fa rfl fld154_2 rfl)
                        | 19, h_ => cases h_; exact Ob.f rfl (.g rfl rfl) fun N => (OpOk.le (O.ld (p := kI64.is (cT d a b)) rfl (mem_app N (mem_at 0 rfl)) (Lens.snd (Lens.snd (Lens.id _))) ty3 rfl) (i64_le _))
                        | 20, h_ => cases h_; exact Ob.f rfl (.g rfl rfl) fun N => (O.fn fn126 (evs.c rfl (evs.c rfl evs.nil)) (c_quad_gcd (Int.gcd a b : Int) (cT d a b) (by omega) (by omega)))
                        | 21, h_ => cases h_; exact Ob.f rfl (.g rfl rfl) fun N => (OpOk.le (O.ne rfl rfl) (is_eq (decide_eq_true hg)))
                        | 22, h_ => cases h_; exact Ob.f rfl .n fun N => (O.pickF rfl rfl)
                        | 23, h_ => cases h_; exact Ob.f rfl .n fun N => (O.mv rfl)
                        | 24, h_ => cases h_; exact Ob.ku (b := true) rfl rfl rfl
                        | 25, h_ => cases h_; exact Ob.ku (b := true) rfl rfl rfl
                        | 26, h_ => cases h_; exact Ob.ku (b := true) rfl rfl rfl
                        | 27, h_ => cases h_; exact Ob.f rfl .n fun N => (O.pickT rfl rfl)
                        | n_ + 28, h_ => simp at h_
                      refine WP.nil ?_
                      refine QE.next ?_
                      refine CW.condT rfl ?_
                      refine CW.exit ?_
                      refine QE.thenE ?_
                      refine QE.blkH ?_
                      refine QE.next ?_
                      refine CW.region ?_
                      refine WP.s .n (O.mv rfl) ?_
                      refine WP.s .n (O.add rfl rfl (c := (b + 1)) (w64 (by omega))) ?_
                      refine WP.s .n (O.asg rfl) ?_
                      refine WP.nil ?_
                      refine ST.obtold 1 rfl (OB.row_eq (ys := (out ++ rowT d a (b + 1 - (1 - a)).toNat)) (rowT_no hb1 (fun h => hg h.2.2.2))) ?_
                      exact QE.round2 (b + 1) v (by omega) (by omega) (Imp.cons rfl (Imp.cons rfl (Imp.cons rfl (Imp.cons rfl Imp.nil)))) (OImp.os (OS.skip (OS.keepLe (OB.row_eq (by first | rfl | omega | assumption)) OS.nil)))
                · by_cases hg : ((Int.gcd (Int.gcd a b : Int) (cT d a b) : Nat) : Int) = 1
                  · refine CW.draw (Γ := [.fr (VP.ex (.pointer (some ⟨b1, 2, none⟩))), .fr ((kInt .i64).is (cT d a b)), .fr ((kInt .i64).is a), .fr (kBool.is false), .fr (kBool.is false), .fr (VP.ex (.pointer (some ⟨b1, 2, none⟩))), .fr ((kInt .i64).is (cT d a b)), .fr ((kInt .i64).is a), .fr (kBool.is false), .fr (kBool.is false), .fr (VP.ex undef), .fr (VP.ex undef), .fr (kBool.is false), .fr (kBool.is false), .fr (kBool.is false), .fr ((kInt .i64).is a), .fr ((kInt .i64).is b), .fr ((kInt .i64).is (Int.gcd a b : Int)), .fr (VP.ex (.pointer (some ⟨b1, 2, none⟩))), .fr ((kInt .i64).is (cT d a b)), .fr ((kInt .i64).is (Int.gcd (Int.gcd a b : Int) (cT d a b) : Int)), .fr (kBool.is false), .fr (kBool.is false), .fr (kBool.is false), .fr (VP.ex v), .fr ((kPair kI64 (kPair kI64 kI64)).is (a, (b, (cT d a b)))), .fr (kBool.is false), .fr (kBool.is false)]) (lates := [false, false, false, false, false, false, false, false, false, false, false, false, false, false, false, false, false, false, false, false, false, false, false, false, false, false, false, false]) (by kernel_rfl) (Chk.of rfl (by kernel_rfl) rfl) (fun _ _ _ _ _ h => h) (fun q_ x_ h_ => ?_) (fun σ5 => ?_)
                    · match q_, h_ with
                      | 0, h_ => cases h_; exact Ob.f rfl .n fun N => (O.fa rfl fld154_2 rfl)
                      | 1, h_ => cases h_; exact Ob.f rfl .n fun N => (OpOk.le (O.ld (p := kI64.is (cT d a b)) rfl (mem_app N (mem_at 0 rfl)) (Lens.snd (Lens.snd (Lens.id _))) ty3 rfl) (i64_le _))
                      | 2, h_ => cases h_; exact Ob.f rfl .n fun N => (O.mv rfl)
                      | 3, h_ => cases h_; exact Ob.f rfl .n fun N => (OpOk.le (O.lt rfl rfl) (is_eq (decide_eq_false hc1)))
                      | 4, h_ => cases h_; exact Ob.f rfl .n fun N => (O.mv rfl)
                      | 5, h_ => cases h_; exact Ob.f rfl (.g rfl rfl) fun N => (O.fa rfl fld154_2 rfl)
                      | 6, h_ => cases h_; exact Ob.f rfl (.g rfl rfl) fun N => (OpOk.le (O.ld (p := kI64.is (cT d a b)) rfl (mem_app N (mem_at 0 rfl)) (Lens.snd (Lens.snd (Lens.id _))) ty3 rfl) (i64_le _))
                      | 7, h_ => cases h_; exact Ob.f rfl (.g rfl rfl) fun N => (O.mv rfl)
                      | 8, h_ => cases h_; exact Ob.f rfl (.g rfl rfl) fun N => (OpOk.le (O.eq rfl rfl) (is_eq (decide_eq_false hc2)))
                      | 9, h_ => cases h_; exact Ob.f rfl (.g rfl rfl) fun N => (O.mv rfl)
                      | 10, h_ => cases h_; exact Ob.ku (b := false) rfl rfl rfl
                      | 11, h_ => cases h_; exact Ob.ku (b := false) rfl rfl rfl
                      | 12, h_ => cases h_; exact Ob.f rfl (.g rfl rfl) fun N => (O.pickF rfl rfl)
                      | 13, h_ => cases h_; exact Ob.f rfl .n fun N => (O.pickF rfl rfl)
                      | 14, h_ => cases h_; exact Ob.f rfl .n fun N => (O.mv rfl)
                      | 15, h_ => cases h_; exact Ob.f rfl (.g rfl rfl) fun N => (O.mv rfl)
                      | 16, h_ => cases h_; exact Ob.f rfl (.g rfl rfl) fun N => (O.mv rfl)
                      | 17, h_ => cases h_; exact Ob.f rfl (.g rfl rfl) fun N => (O.fn fn126 (evs.c rfl (evs.c rfl evs.nil)) (c_quad_gcd a b (by omega) (by omega)))
                      | 18, h_ => cases h_; exact Ob.f rfl (.g rfl rfl) fun N => (O.fa rfl fld154_2 rfl)
                      | 19, h_ => cases h_; exact Ob.f rfl (.g rfl rfl) fun N => (OpOk.le (O.ld (p := kI64.is (cT d a b)) rfl (mem_app N (mem_at 0 rfl)) (Lens.snd (Lens.snd (Lens.id _))) ty3 rfl) (i64_le _))
                      | 20, h_ => cases h_; exact Ob.f rfl (.g rfl rfl) fun N => (O.fn fn126 (evs.c rfl (evs.c rfl evs.nil)) (c_quad_gcd (Int.gcd a b : Int) (cT d a b) (by omega) (by omega)))
                      | 21, h_ => cases h_; exact Ob.f rfl (.g rfl rfl) fun N => (OpOk.le (O.ne rfl rfl) (is_eq (decide_eq_false (fun h => h hg))))
                      | 22, h_ => cases h_; exact Ob.f rfl .n fun N => (O.pickF rfl rfl)
                      | 23, h_ => cases h_; exact Ob.f rfl .n fun N => (O.mv rfl)
                      | 24, h_ => cases h_; exact Ob.f rfl (.g rfl rfl) fun N => (O.mv rfl)
                      | 25, h_ => cases h_; exact Ob.f rfl (.g rfl rfl) fun N => (O.ld (p := (kPair kI64 (kPair kI64 kI64)).is (a, (b, (cT d a b)))) rfl (mem_app N (mem_at 0 rfl)) (Lens.id _) ty154 rfl)
                      | 26, h_ => cases h_; exact Ob.f rfl (.g rfl rfl) fun N => (O.fn1 (b := OB.row v 154 (kPair kI64 (kPair kI64 kI64)) (out ++ rowT d a (b - (1 - a)).toNat)) (mem_app N (mem_at 1 rfl)) fn127 (evs.c rfl (evs.c rfl evs.nil)) (c_sl_Contains v (out ++ rowT d a (b - (1 - a)).toNat) (a, (b, (cT d a b))) (of_decide_eq_false (clR_not hC hb1))))
                      | 27, h_ => cases h_; exact Ob.f rfl .n fun N => (O.pickF rfl rfl)
                      | n_ + 28, h_ => simp at h_
                    refine WP.nil ?_
                    refine QE.next ?_
                    refine CW.condF rfl ?_
                    refine CW.skip ?_
                    refine QE.next ?_
                    refine CW.region ?_
                    refine WP.s .n (O.mv rfl) ?_
                    refine WP.s .n (O.ld (p := (kPair kI64 (kPair kI64 kI64)).is (a, (b, (cT d a b)))) rfl (mem_at 0 rfl) (Lens.id _) ty154 rfl) ?_
                    refine WP.s .n (O.bs Try.underlying152 el154_pr_int_pr_int_int__ (evl.c rfl evl.n) rfl (by decide)) ?_
                    refine WP.ap 1 .n rfl rfl rfl (VP.le_refl _) Try.underlying152 el154_pr_int_pr_int_int__ (by simp; omega) fun v3 => ?_
                    refine WP.s .n (O.asg rfl) ?_
                    refine WP.nil ?_
                    refine QE.blkN ?_
                    refine QE.next ?_
                    refine CW.region ?_
                    refine WP.s .n (O.mv rfl) ?_
                    refine WP.s .n (O.add rfl rfl (c := (b + 1)) (w64 (by omega))) ?_
                    refine WP.s .n (O.asg rfl) ?_
                    refine WP.nil ?_
                    refine ST.obtold 1 rfl (OB.row_eq (ys := (out ++ rowT d a (b + 1 - (1 - a)).toNat)) (rowT_yes hb1 ⟨hm0, hc1, (fun h => hc2 h.1), hg⟩)) ?_
                    exact QE.round2 (b + 1) v3 (by omega) (by omega) (Imp.cons rfl (Imp.cons rfl (Imp.cons rfl (Imp.cons rfl Imp.nil)))) (OImp.os (OS.skip (OS.keepLe (OB.row_eq (by first | rfl | omega | assumption)) OS.nil)))
                  · refine CW.draw (Γ := [.fr (VP.ex (.pointer (some ⟨b1, 2, none⟩))), .fr ((kInt .i64).is (cT d a b)), .fr ((kInt .i64).is a), .fr (kBool.is false), .fr (kBool.is false), .fr (VP.ex (.pointer (some ⟨b1, 2, none⟩))), .fr ((kInt .i64).is (cT d a b)), .fr ((kInt .i64).is a), .fr (kBool.is false), .fr (kBool.is false), .fr (VP.ex undef), .fr (VP.ex undef), .fr (kBool.is false), .fr (kBool.is false), .fr (kBool.is false), .fr ((kInt .i64).is a), .fr ((kInt .i64).is b), .fr ((kInt .i64).is (Int.gcd a b : Int)), .fr (VP.ex (.pointer (some ⟨b1, 2, none⟩))), .fr ((kInt .i64).is (cT d a b)), .fr ((kInt .i64).is (Int.gcd (Int.gcd a b : Int) (cT d a b) : Int)), .fr (kBool.is true), .fr (kBool.is true), .fr (kBool.is true), .fr (VP.ex undef), .fr (VP.ex undef), .fr (VP.ex undef), .fr (kBool.is true)]) (lates := [false, false, false, false, false, false, false, false, false, false, false, false, false, false, false, false, false, false, false, false, false, false, false, false, false, false, false, false]) (by kernel_rfl) (Chk.of rfl (by kernel_rfl) rfl) (fun _ _ _ _ _ h => h) (fun q_ x_ h_ => ?_) (fun σ6 => ?_)
                    · match q_, h_ with
                      | 0, h_ => cases h_; exact Ob.f rfl .n fun N => (O.fa rfl fld154_2 rfl)
                      | 1, h_ => cases h_; exact Ob.f rfl .n fun N => (OpOk.le (O.ld (p := kI64.is (cT d a b)) rfl (mem_app N (mem_at 0 rfl)) (Lens.snd (Lens.snd (Lens.id _))) ty3 rfl) (i64_le _))
                      | 2, h_ => cases h_; exact Ob.f rfl .n fun N => (O.mv rfl)
                      | 3, h_ => cases h_; exact Ob.f rfl .n fun N => (OpOk.le (O.lt rfl rfl) (is_eq (decide_eq_false hc1)))
                      | 4, h_ => cases h_; exact Ob.f rfl .n fun N => (O.mv rfl)
                      | 5, h_ => cases h_; exact Ob.f rfl (.g rfl rfl) fun N => (O.fa rfl fld154_2 rfl)
                      | 6, h_ => cases h_; exact Ob.f rfl (.g rfl rfl) fun N => (OpOk.le (O.ld (p := kI64.is (cT d a b)) rfl (mem_app N (mem_at 0 rfl)) (Lens.snd (Lens.snd (Lens.id _))) ty3 rfl) (i64_le _))
                      | 7, h_ => cases h_; exact Ob.f rfl (.g rfl rfl) fun N => (O.mv rfl)
                      | 8, h_ => cases h_; exact Ob.f rfl (.g rfl rfl) fun N => (OpOk.le (O.eq rfl rfl) (is_eq (decide_eq_false hc2)))
                      | 9, h_ => cases h_; exact Ob.f rfl (.g rfl rfl) fun N => (O.mv rfl)
                      | 10, h_ => cases h_; exact Ob.ku (b := false) rfl rfl rfl
                      | 11, h_ => cases h_; exact Ob.ku (b := false) rfl rfl rfl
                      | 12, h_ => cases h_; exact Ob.f rfl (.g rfl rfl) fun N => (O.pickF rfl rfl)
                      | 13, h_ => cases h_; exact Ob.f rfl .n fun N => (O.pickF rfl rfl)
                      | 14, h_ => cases h_; exact Ob.f rfl .n fun N => (O.mv rfl)
                      | 15, h_ => cases h_; exact Ob.f rfl (.g rfl rfl) fun N => (O.mv rfl)
                      | 16, h_ => cases h_; exact Ob.f rfl (.g rfl rfl) fun N => (O.mv rfl)
                      | 17, h_ => cases h_; exact Ob.f rfl (.g rfl rfl) fun N => (O.fn fn126 (evs.c rfl (evs.c rfl evs.nil)) (c_quad_gcd a b (by omega) (by omega)))
                      | 18, h_ => cases h_; exact Ob.f rfl (.g rfl rfl) fun N => (O.fa rfl fld154_2 rfl)
                      | 19, h_ => cases h_; exact Ob.f rfl (.g rfl rfl) fun N => (OpOk.le (O.ld (p := kI64.is (cT d a b)) rfl (mem_app N (mem_at 0 rfl)) (Lens.snd (Lens.snd (Lens.id _))) ty3 rfl) (i64_le _))
                      | 20, h_ => cases h_; exact Ob.f rfl (.g rfl rfl) fun N => (O.fn fn126 (evs.c rfl (evs.c rfl evs.nil)) (c_quad_gcd (Int.gcd a b : Int) (cT d a b) (by omega) (by omega)))
                      | 21, h_ => cases h_; exact Ob.f rfl (.g rfl rfl) fun N => (OpOk.le (O.ne rfl rfl) (is_eq (decide_eq_true hg)))
                      | 22, h_ => cases h_; exact Ob.f rfl .n fun N => (O.pickF rfl rfl)
                      | 23, h_ => cases h_; exact Ob.f rfl .n fun N => (O.mv rfl)
                      | 24, h_ => cases h_; exact Ob.ku (b := true) rfl rfl rfl
                      | 25, h_ => cases h_; exact Ob.ku (b := true) rfl rfl rfl
                      | 26, h_ => cases h_; exact Ob.ku (b := true) rfl rfl rfl
                      | 27, h_ => cases h_; exact Ob.f rfl .n fun N => (O.pickT rfl rfl)
                      | n_ + 28, h_ => simp at h_
                    refine WP.nil ?_
                    refine QE.next ?_
                    refine CW.condT rfl ?_
                    refine CW.exit ?_
                    refine QE.thenE ?_
                    refine QE.blkH ?_
                    refine QE.next ?_
                    refine CW.region ?_
                    refine WP.s .n (O.mv rfl) ?_
                    refine WP.s .n (O.add rfl rfl (c := (b + 1)) (w64 (by omega))) ?_
                    refine WP.s .n (O.asg rfl) ?_
                    refine WP.nil ?_
                    refine ST.obtold 1 rfl (OB.row_eq (ys := (out ++ rowT d a (b + 1 - (1 - a)).toNat)) (rowT_no hb1 (fun h => hg h.2.2.2))) ?_
                    exact QE.round2 (b + 1) v (by omega) (by omega) (Imp.cons rfl (Imp.cons rfl (Imp.cons rfl (Imp.cons rfl Imp.nil)))) (OImp.os (OS.skip (OS.keepLe (OB.row_eq (by first | rfl | omega | assumption)) OS.nil)))
          · refine CW.exit ?_
            refine QE.thenE ?_
            refine QE.thenE ?_
            refine QE.blkH ?_
            refine QE.blkN ?_
            refine QE.next ?_
            refine CW.region ?_
            refine WP.s .n (O.mv rfl) ?_
            refine WP.s .n (O.add rfl rfl (c := (a + 1)) (w64 (by omega))) ?_
            refine WP.s .n (O.asg rfl) ?_
            refine WP.nil ?_
            exact QE.round3 (a + 1) (out ++ rowT d a (b - (1 - a)).toNat) v (by omega) (clR_s hd1 hC h3 (by omega)) (Imp.cons rfl (Imp.cons rfl (Imp.cons rfl Imp.nil))) (OImp.refl _)
        · have h3 : ¬ 3 * a * a ≤ -d := by omega
          refine CW.exit ?_
          refine QE.thenE ?_
          refine QE.thenE ?_
          refine QE.blkH ?_
          refine QE.next ?_
          refine CW.seq ?_
          have hln := listT_len hC
          have hend := clR_end hC h3
          rw [hend] at hln
          refine ST.obtold 0 rfl (OB.row_eq (ys := ((listT d))) hend) ?_
          refine ST.freeze 0 rfl (.keep (i := 0) rfl (.hit (i := 4) rfl (.keep (i := 5) rfl (.keep (i := 24) rfl (.keep (i := 25) rfl (.keep (i := 26) rfl (.keep (i := 27) rfl (.keep (i := 28) rfl (.keep (i := 29) rfl (.keep (i := 30) rfl .nil)))))))))) ?_
          refine CW.region ?_
          refine WP.s .n (O.mv rfl) ?_
          refine WP.s .n (O.fn fn128 (evs.c rfl (evs.c rfl evs.nil)) (c_sl_Sort ((listT d)) (listT_rise d) (by omega))) ?_
          refine WP.nil ?_
          refine QE.next ?_
          refine CW.seq ?_
          refine CW.region ?_
          refine WP.s .n (O.asg rfl) ?_
          refine WP.nil ?_
          refine QE.next ?_
          refine CW.seq ?_
          refine CW.seq ?_
          refine CW.region ?_
          refine WP.s .n (O.mv rfl) ?_
          refine WP.s .n (O.lenS rfl Try.underlying152) ?_
          refine WP.s .n (O.mv rfl) ?_
          refine WP.nil ?_
          refine QE.next ?_
          refine CW.block ?_
          refine ST.nilrow 47 (kPair kC (kPair kC kC)) ?_
          refine CW.loop2 (fun (i : Nat) (v : Value) => i ≤ (listT d).length) (fun (i : Nat) (v : Value) => [(8, VP.ex v), (95, (kSl (kPair kI64 (kPair kI64 kI64))).is (listT d)), (96, (kInt .i64).is ((listT d).length : Int)), (97, (kInt .i64).is (i : Int))]) (fun (i : Nat) (v : Value) => [OB.row v 47 (kPair kC (kPair kC kC)) ((listT d).take i)]) (fun (i : Nat) (v : Value) => (listT d).length - i) 0 (.slice none 0 0) (by omega) (Imp.cons rfl (Imp.consLe rfl (is_eq (y := listT d) (by first | rfl | omega | assumption)) (Imp.consLe rfl (is_eq (y := ((listT d).length : Int)) (by first | rfl | omega | assumption)) (Imp.consLe rfl (is_eq (y := (0 : Int)) (by first | rfl | omega | assumption)) Imp.nil)))) (OImp.os (OS.keepLe (OB.row_eq (by first | rfl | omega | assumption)) OS.nil)) ?_
          intro i v hi
          refine CW.seq ?_
          refine CW.region ?_
          refine WP.s .n (O.lt rfl rfl) ?_
          refine WP.nil ?_
          refine QE.next ?_
          refine CW.seq ?_
          refine CW.condD rfl (fun h_t98 => ?_) (fun h_t98 => ?_)
          · have hx := listT_bd hd1 hd2 (getD_mem (d := (0, 0, 0)) (show i < (listT d).length by omega))
            refine CW.skip ?_
            refine QE.next ?_
            refine CW.seq ?_
            refine CW.block ?_
            refine CW.seq ?_
            refine CW.region ?_
            refine WP.s .n (O.ix i rfl rfl Try.underlying152 ty154 rfl (v := ((listT d).getD i (0, (0, 0)))) (gd (0, (0, 0)) (by omega))) ?_
            refine WP.s .n (O.ldP rfl ty154) ?_
            refine WP.al .n z154_pr_int_pr_int_int__ fun b4 => ?_
            refine WP.t .n (O.stW (l := (kPair kI64 (kPair kI64 kI64))) (u := ((listT d).getD i (0, (0, 0)))) 0 rfl rfl rfl ty154 rfl (VP.le_refl _)) ?_
            refine WP.nil ?_
            refine QE.next ?_
            refine CW.draw (Γ := [.fr (VP.ex v), .fr (VP.ex (.pointer (some ⟨b4, 0, none⟩))), .fr ((kInt .i64).is (((listT d).getD i (0, (0, 0))).1)), .fr (kC.is (((listT d).getD i (0, (0, 0))).1)), .fr (VP.ex (.pointer (some ⟨b4, 1, none⟩))), .fr ((kInt .i64).is ((((listT d).getD i (0, (0, 0))).2).1)), .fr (kC.is ((((listT d).getD i (0, (0, 0))).2).1)), .fr (VP.ex (.pointer (some ⟨b4, 2, none⟩))), .fr ((kInt .i64).is ((((listT d).getD i (0, (0, 0))).2).2)), .fr (kC.is ((((listT d).getD i (0, (0, 0))).2).2)), .fr ((kPair kC (kPair kC kC)).is (((listT d).getD i (0, (0, 0))).1, ((((listT d).getD i (0, (0, 0))).2).1, (((listT d).getD i (0, (0, 0))).2).2))), .fr ((kSl (kPair kC (kPair kC kC))).is [(((listT d).getD i (0, (0, 0))).1, ((((listT d).getD i (0, (0, 0))).2).1, (((listT d).getD i (0, (0, 0))).2).2))])]) (lates := [false, false, false, false, false, false, false, false, false, false, false, false]) (by kernel_rfl) (Chk.of rfl (by kernel_rfl) rfl) (fun _ _ _ _ _ h => h) (fun q_ x_ h_ => ?_) (fun σ7 => ?_)
            · match q_, h_ with
              | 0, h_ => cases h_; exact Ob.f rfl .n fun N => (O.mv rfl)
              | 1, h_ => cases h_; exact Ob.f rfl .n fun N => (O.fa rfl fld154_0 rfl)
              | 2, h_ => cases h_; exact Ob.f rfl .n fun N => (OpOk.le (O.ld rfl (mem_app N (mem_at 0 rfl)) (Lens.fst (Lens.id _)) ty3 rfl) (i64_le _))
              | 3, h_ => cases h_; exact Ob.f rfl .n fun N => (O.fn fn74 (evs.l rfl (i64_int (by omega)) evs.nil) (c_zint_Of (((listT d).getD i (0, (0, 0))).1)))
              | 4, h_ => cases h_; exact Ob.f rfl .n fun N => (O.fa rfl fld154_1 rfl)
              | 5, h_ => cases h_; exact Ob.f rfl .n fun N => (OpOk.le (O.ld rfl (mem_app N (mem_at 0 rfl)) (Lens.snd (Lens.fst (Lens.id _))) ty3 rfl) (i64_le _))
              | 6, h_ => cases h_; exact Ob.f rfl .n fun N => (O.fn fn74 (evs.l rfl (i64_int (by omega)) evs.nil) (c_zint_Of ((((listT d).getD i (0, (0, 0))).2).1)))
              | 7, h_ => cases h_; exact Ob.f rfl .n fun N => (O.fa rfl fld154_2 rfl)
              | 8, h_ => cases h_; exact Ob.f rfl .n fun N => (OpOk.le (O.ld rfl (mem_app N (mem_at 0 rfl)) (Lens.snd (Lens.snd (Lens.id _))) ty3 rfl) (i64_le _))
              | 9, h_ => cases h_; exact Ob.f rfl .n fun N => (O.fn fn74 (evs.l rfl (i64_int (by omega)) evs.nil) (c_zint_Of ((((listT d).getD i (0, (0, 0))).2).2)))
              | 10, h_ => cases h_; exact Ob.f rfl .n fun N => (O.bld lit47_pr_C_pr_C_C__ rfl (evp.c rfl (evp.c rfl (evp.c rfl evp.n))) (.cons rfl (Lens.fst (Lens.id _)) (.cons rfl (Lens.snd (Lens.fst (Lens.id _))) (.cons rfl (Lens.snd (Lens.snd (Lens.id _))) (.nil _)))))
              | 11, h_ => cases h_; exact Ob.f rfl .n fun N => (O.bs Try.underlying104 el47_pr_C_pr_C_C__ (evl.c rfl evl.n) rfl (by decide))
              | n_ + 12, h_ => simp at h_
            refine WP.ap 1 .n rfl rfl rfl (VP.le_refl _) Try.underlying104 el47_pr_C_pr_C_C__ (by simp; omega) fun v5 => ?_
            refine WP.s .n (O.asg rfl) ?_
            refine WP.nil ?_
            refine QE.blkN ?_
            refine QE.next ?_
            refine CW.region ?_
            refine WP.s .n (O.add rfl rfl (c := ((i : Int) + 1)) (w64 (by omega))) ?_
            refine WP.s .n (O.mv rfl) ?_
            refine WP.nil ?_
            refine ST.obtold 1 rfl (OB.row_eq (ys := ((listT d).take (i + 1))) (take_app (d := (0, 0, 0)) (by omega))) ?_
            exact QE.round2 (i + 1) v5 (by omega) (by omega) (Imp.cons rfl (Imp.cons rfl (Imp.cons rfl (Imp.consLe rfl (is_eq (y := (((i + 1) : Nat) : Int)) (by first | rfl | omega | assumption)) Imp.nil)))) (OImp.os (OS.skip (OS.keep OS.nil)))
          · refine CW.exit ?_
            refine QE.thenE ?_
            refine QE.thenE ?_
            refine QE.blkH ?_
            refine QE.next ?_
            refine CW.seq ?_
            refine CW.region ?_
            refine WP.s .n (O.mv rfl) ?_
            refine WP.s .n (O.asg rfl) ?_
            refine WP.s .n (O.asg rfl) ?_
            refine WP.nil ?_
            refine QE.next ?_
            refine CW.ret ?_
            refine ST.freeze 0 rfl (.hit (i := 2) rfl (.keep (i := 3) rfl (.hit (i := 8) rfl (.keep (i := 95) rfl (.keep (i := 96) rfl (.keep (i := 97) rfl (.keep (i := 98) rfl (.hit (i := 115) rfl .nil)))))))) ?_
            have hV := clV_2 (d := d) (by omega)
            refine ST.told 2 rfl (is_eq (y := ((clV d).1)) (by rw [hV, List.take_of_length_le (by omega)])) ?_
            refine ST.told 3 rfl (is_eq (y := ((clV d).2)) (by rw [hV])) ?_
            exact QE.done (.inl rfl) rfl (ResOk.t rfl (ResOk.t rfl ResOk.nil)) (OImp.sub (List.nil_sublist _)) ⟨rfl, rfl⟩

set_option maxRecDepth 20000 in
set_option maxHeartbeats 8000000 in
theorem c_ref22_Classes (d : Int) : Fn Try.prog 65 [(kInt .i64).is d] (VP.tup [(kSl (kPair kC (kPair kC kC))).is ((clV d).1), (kInt .i64).is ((clV d).2)]) := by
  refine Con.enter Try.func65 rfl rfl fun m w => ?_
  have htm := tmod4 d
  refine CW.seq ?_
  refine CW.region ?_
  refine WP.s .n (O.asg rfl) ?_
  refine WP.s .n (O.asg rfl) ?_
  refine WP.nil ?_
  refine QE.next ?_
  refine CW.seq ?_
  refine CW.seq ?_
  refine CW.region ?_
  refine WP.s .n (O.mv rfl) ?_
  refine WP.s .n (O.ge rfl rfl) ?_
  refine WP.s .n (O.mv rfl) ?_
  refine WP.splitD 10 rfl (fun h_t10 => ?_) (fun h_t10 => ?_)
  · refine WP.ku (b := true) rfl rfl ?_
    refine WP.ku (b := true) rfl rfl ?_
    refine WP.s .n (O.pickT rfl rfl) ?_
    refine WP.s .n (O.mv rfl) ?_
    refine WP.ku (b := true) rfl rfl ?_
    refine WP.ku (b := true) rfl rfl ?_
    refine WP.ku (b := true) rfl rfl ?_
    refine WP.ku (b := true) rfl rfl ?_
    refine WP.ku (b := true) rfl rfl ?_
    refine WP.s .n (O.pickT rfl rfl) ?_
    refine WP.nil ?_
    refine QE.next ?_
    refine CW.condT rfl ?_
    refine CW.seq ?_
    refine CW.region ?_
    refine WP.s .n (O.asg rfl) ?_
    refine WP.s .n (O.asg rfl) ?_
    refine WP.nil ?_
    refine QE.next ?_
    refine CW.ret ?_
    refine QE.thenR ?_
    refine ST.told (q := (kSl (kPair kC (kPair kC kC))).is ([] : List T3)) 2 rfl (nil_le _) ?_
    have hV := clV_1 (d := d) (.inl h_t10)
    refine ST.told 2 rfl (is_eq (y := ((clV d).1)) (by rw [hV])) ?_
    refine ST.told 3 rfl (is_eq (y := ((clV d).2)) (by rw [hV])) ?_
    exact QE.done (.inl rfl) rfl (ResOk.t rfl (ResOk.t rfl ResOk.nil)) (OImp.sub (List.nil_sublist _)) ⟨rfl, rfl⟩
  · refine WP.s (.g rfl rfl) (O.mv rfl) ?_
    refine WP.s (.g rfl rfl) (O.lt rfl rfl) ?_
    refine WP.s .n (O.pickF rfl rfl) ?_
    refine WP.s .n (O.mv rfl) ?_
    refine WP.splitD 14 rfl (fun h_t14 => ?_) (fun h_t14 => ?_)
    · refine WP.ku (b := true) rfl rfl ?_
      refine WP.ku (b := true) rfl rfl ?_
      refine WP.ku (b := true) rfl rfl ?_
      refine WP.ku (b := true) rfl rfl ?_
      refine WP.ku (b := true) rfl rfl ?_
      refine WP.s .n (O.pickT rfl rfl) ?_
      refine WP.nil ?_
      refine QE.next ?_
      refine CW.condT rfl ?_
      refine CW.seq ?_
      refine CW.region ?_
      refine WP.s .n (O.asg rfl) ?_
      refine WP.s .n (O.asg rfl) ?_
      refine WP.nil ?_
      refine QE.next ?_
      refine CW.ret ?_
      refine QE.thenR ?_
      refine ST.told (q := (kSl (kPair kC (kPair kC kC))).is ([] : List T3)) 2 rfl (nil_le _) ?_
      have hV := clV_1 (d := d) (.inr (.inl h_t14))
      refine ST.told 2 rfl (is_eq (y := ((clV d).1)) (by rw [hV])) ?_
      refine ST.told 3 rfl (is_eq (y := ((clV d).2)) (by rw [hV])) ?_
      exact QE.done (.inl rfl) rfl (ResOk.t rfl (ResOk.t rfl ResOk.nil)) (OImp.sub (List.nil_sublist _)) ⟨rfl, rfl⟩
    · have hd1 : -20000 ≤ d := by omega
      have hd2 : d < 0 := by omega
      refine WP.s (.g rfl rfl) (O.mv rfl) ?_
      refine WP.s (.g rfl rfl) (O.rem rfl rfl (by omega) (c := (d.tmod 4)) rfl) ?_
      refine WP.s (.g rfl rfl) (O.add rfl rfl (c := ((d.tmod 4) + 4)) (w64 (by omega))) ?_
      refine WP.s (.g rfl rfl) (O.rem rfl rfl (by omega) (c := ((d.tmod 4 + 4).tmod 4)) rfl) ?_
      refine WP.s (.g rfl rfl) (O.gt rfl rfl) ?_
      refine WP.s .n (O.pickF rfl rfl) ?_
      refine WP.nil ?_
      refine QE.next ?_
      refine CW.condD rfl (fun h_t20 => ?_) (fun h_t20 => ?_)
      · refine CW.seq ?_
        refine CW.region ?_
        refine WP.s .n (O.asg rfl) ?_
        refine WP.s .n (O.asg rfl) ?_
        refine WP.nil ?_
        refine QE.next ?_
        refine CW.ret ?_
        refine QE.thenR ?_
        refine ST.told (q := (kSl (kPair kC (kPair kC kC))).is ([] : List T3)) 2 rfl (nil_le _) ?_
        have hV := clV_1 (d := d) (.inr (.inr h_t20))
        refine ST.told 2 rfl (is_eq (y := ((clV d).1)) (by rw [hV])) ?_
        refine ST.told 3 rfl (is_eq (y := ((clV d).2)) (by rw [hV])) ?_
        exact QE.done (.inl rfl) rfl (ResOk.t rfl (ResOk.t rfl ResOk.nil)) (OImp.sub (List.nil_sublist _)) ⟨rfl, rfl⟩
      · refine CW.skip ?_
        refine QE.next ?_
        refine CW.seq ?_
        refine CW.region ?_
        refine WP.s .n (O.asg rfl) ?_
        refine WP.nil ?_
        refine QE.next ?_
        refine CW.seq ?_
        refine CW.seq ?_
        refine CW.region ?_
        refine WP.s .n (O.asg rfl) ?_
        refine WP.nil ?_
        refine QE.next ?_
        refine CW.block ?_
        refine ST.nilrow 47 (kPair kC (kPair kC kC)) ?_
        refine CW.loop3 (fun (a : Int) (out : List T3) (v : Value) => ClR d a out) (fun (a : Int) (out : List T3) (v : Value) => [(0, (kInt .i64).is d), (4, VP.ex v), (5, (kInt .i64).is a)]) (fun (a : Int) (out : List T3) (v : Value) => [OB.row v 47 (kPair kC (kPair kC kC)) out]) (fun (a : Int) (out : List T3) (v : Value) => (100 - a).toNat) 1 [] (.slice none 0 0) (clR_0 d) (Imp.cons rfl (Imp.cons rfl (Imp.cons rfl Imp.nil))) (OImp.refl _) ?_
        intro a out v hC
        have hCl := hC.lo
        have hCh := hC.hi
        have haa := aa_bd (a := a) (by omega) (by omega)
        refine CW.seq ?_
        refine CW.seq ?_
        refine CW.region ?_
        refine WP.s .n (O.mv rfl) ?_
        refine WP.s .n (O.mul rfl rfl (c := (3 * a)) (w64 (by omega))) ?_
        refine WP.s .n (O.mv rfl) ?_
        refine WP.s .n (O.mul rfl rfl (c := ((3 * a) * a)) (w64 (by omega))) ?_
        refine WP.s .n (O.mv rfl) ?_
        refine WP.s .n (O.neg rfl (c := (0 - d)) (w64 (by omega))) ?_
        refine WP.s .n (O.le rfl rfl) ?_
        refine WP.nil ?_
        refine QE.next ?_
        refine CW.condD rfl (fun h_t27 => ?_) (fun h_t27 => ?_)
        · have h3 : 3 * a * a ≤ -d := by omega
          have ha81 := a_bd hd1 hCl h3
          refine CW.skip ?_
          refine QE.next ?_
          refine CW.seq ?_
          refine CW.block ?_
          refine CW.seq ?_
          refine CW.region ?_
          refine WP.s .n (O.mv rfl) ?_
          refine WP.s .n (O.sub rfl rfl (c := (1 - a)) (w64 (by omega))) ?_
          refine WP.s .n (O.asg rfl) ?_
          refine WP.nil ?_
          refine QE.next ?_
          refine CW.block ?_
          refine ST.obtold 0 rfl (OB.row_eq (ys := (out ++ rowT d a ((1 - a) - (1 - a)).toNat)) (by rw [show ((1 - a) - (1 - a)).toNat = 0 from by omega]; simp [rowT])) ?_
          refine CW.loop2 (fun (b : Int) (v : Value) => 1 - a ≤ b ∧ b ≤ a + 1) (fun (b : Int) (v : Value) => [(0, (kInt .i64).is d), (4, VP.ex v), (5, (kInt .i64).is a), (6, (kInt .i64).is b)]) (fun (b : Int) (v : Value) => [OB.row v 47 (kPair kC (kPair kC kC)) (out ++ rowT d a (b - (1 - a)).toNat)]) (fun (b : Int) (v : Value) => (a + 1 - b).toNat) (1 - a) v (by omega) (Imp.cons rfl (Imp.cons rfl (Imp.cons rfl (Imp.cons rfl Imp.nil)))) (OImp.refl _) ?_
          intro b v ⟨hb1, hb2⟩
          have hbb := sq_bd (b := b) (by omega) (by omega)
          have hcb := cT_bd (d := d) (a := a) (b := b) hd1 hd2 hCl (by omega) (by omega)
          have hln := listT_len hC
          have hrl := rowT_len d a (b - (1 - a)).toNat
          refine CW.seq ?_
          refine CW.seq ?_
          refine CW.region ?_
          refine WP.s .n (O.mv rfl) ?_
          refine WP.s .n (O.mv rfl) ?_
          refine WP.s .n (O.le rfl rfl) ?_
          refine WP.nil ?_
          refine QE.next ?_
          refine CW.condD rfl (fun h_t34 => ?_) (fun h_t34 => ?_)
          · refine CW.skip ?_
            refine QE.next ?_
            refine CW.seq ?_
            refine CW.block ?_
            refine CW.seq ?_
            refine CW.seq ?_
            refine CW.region ?_
            refine WP.s .n (O.mv rfl) ?_
            refine WP.s .n (O.mv rfl) ?_
            refine WP.s .n (O.mul rfl rfl (c := (b * b)) (w64 (by omega))) ?_
            refine WP.s .n (O.mv rfl) ?_
            refine WP.s .n (O.sub rfl rfl (c := ((b * b) - d)) (w64 (by omega))) ?_
            refine WP.s .n (O.mv rfl) ?_
            refine WP.s .n (O.mul rfl rfl (c := (4 * a)) (w64 (by omega))) ?_
            refine WP.s .n (O.rem rfl rfl (by omega) (c := ((b * b - d).tmod (4 * a))) rfl) ?_
            refine WP.s .n (O.ne rfl rfl) ?_
            refine WP.nil ?_
            refine QE.next ?_
            refine CW.condD rfl (fun h_t45 => ?_) (fun h_t45 => ?_)
            · refine CW.exit ?_
              refine QE.thenE ?_
              refine QE.blkH ?_
              refine QE.next ?_
              refine CW.region ?_
              refine WP.s .n (O.mv rfl) ?_
              refine WP.s .n (O.add rfl rfl (c := (b + 1)) (w64 (by omega))) ?_
              refine WP.s .n (O.asg rfl) ?_
              refine WP.nil ?_
              refine ST.obtold 0 rfl (OB.row_eq (ys := (out ++ rowT d a (b + 1 - (1 - a)).toNat)) (rowT_no hb1 (fun h => h_t45 h.1))) ?_
              exact QE.round2 (b + 1) v (by omega) (by omega) (Imp.cons rfl (Imp.cons rfl (Imp.cons rfl (Imp.cons rfl Imp.nil)))) (OImp.os (OS.keepLe (OB.row_eq (by first | rfl | omega | assumption)) OS.nil))
            · have hm0 : (b * b - d).tmod (4 * a) = 0 := by omega
              have hgb := gcdb a b
              refine CW.skip ?_
              refine QE.next ?_
              refine CW.seq ?_
              refine CW.region ?_
              refine WP.s .n (O.mv rfl) ?_
              refine WP.s .n (O.mv rfl) ?_
              refine WP.s .n (O.mul rfl rfl (c := (b * b)) (w64 (by omega))) ?_
              refine WP.s .n (O.mv rfl) ?_
              refine WP.s .n (O.sub rfl rfl (c := ((b * b) - d)) (w64 (by omega))) ?_
              refine WP.s .n (O.mv rfl) ?_
              refine WP.s .n (O.mul rfl rfl (c := (4 * a)) (w64 (by omega))) ?_
              refine WP.s .n (O.quo rfl rfl (by omega) (c := (cT d a b)) (cTw hcb)) ?_
              refine WP.s .n (O.asg rfl) ?_
              refine WP.nil ?_
              refine QE.next ?_
              refine CW.seq ?_
              refine CW.seq ?_
              refine CW.region ?_
              refine WP.s .n (O.mv rfl) ?_
              refine WP.s .n (O.mv rfl) ?_
              refine WP.s .n (O.lt rfl rfl) ?_
              refine WP.s .n (O.mv rfl) ?_
              refine WP.splitD 57 rfl (fun h_t57 => ?_) (fun h_t57 => ?_)
              · refine WP.ku (b := true) rfl rfl ?_
                refine WP.ku (b := true) rfl rfl ?_
                refine WP.ku (b := true) rfl rfl ?_
                refine WP.ku (b := true) rfl rfl ?_
                refine WP.kk rfl rfl ?_
                refine WP.kk rfl rfl ?_
                refine WP.ku (b := true) rfl rfl ?_
                refine WP.s .n (O.pickT rfl rfl) ?_
                refine WP.s .n (O.mv rfl) ?_
                refine WP.ku (b := true) rfl rfl ?_
                refine WP.ku (b := true) rfl rfl ?_
                refine WP.ku (b := true) rfl rfl ?_
                refine WP.ku (b := true) rfl rfl ?_
                refine WP.ku (b := true) rfl rfl ?_
                refine WP.ku (b := true) rfl rfl ?_
                refine WP.s .n (O.pickT rfl rfl) ?_
                refine WP.nil ?_
                refine QE.next ?_
                refine CW.condT rfl ?_
                refine CW.exit ?_
                refine QE.thenE ?_
                refine QE.blkH ?_
                refine QE.next ?_
                refine CW.region ?_
                refine WP.s .n (O.mv rfl) ?_
                refine WP.s .n (O.add rfl rfl (c := (b + 1)) (w64 (by omega))) ?_
                refine WP.s .n (O.asg rfl) ?_
                refine WP.nil ?_
                refine ST.obtold 0 rfl (OB.row_eq (ys := (out ++ rowT d a (b + 1 - (1 - a)).toNat)) (rowT_no hb1 (fun h => h.2.1 h_t57))) ?_
                exact QE.round2 (b + 1) v (by omega) (by omega) (Imp.cons rfl (Imp.cons rfl (Imp.cons rfl (Imp.cons rfl Imp.nil)))) (OImp.os (OS.keepLe (OB.row_eq (by first | rfl | omega | assumption)) OS.nil))
              · refine WP.s (.g rfl rfl) (O.mv rfl) ?_
                refine WP.s (.g rfl rfl) (O.mv rfl) ?_
                refine WP.s (.g rfl rfl) (O.eq rfl rfl) ?_
                refine WP.s (.g rfl rfl) (O.mv rfl) ?_
                refine WP.splitD 61 rfl (fun h_t61 => ?_) (fun h_t61 => ?_)
                · refine WP.s (.g rfl rfl) (O.mv rfl) ?_
                  refine WP.s (.g rfl rfl) (O.lt rfl rfl) ?_
                  refine WP.s (.g rfl rfl) (O.pickT rfl rfl) ?_
                  refine WP.s .n (O.pickF rfl rfl) ?_
                  refine WP.s .n (O.mv rfl) ?_
                  refine WP.splitD 66 rfl (fun h_t66 => ?_) (fun h_t66 => ?_)
                  · refine WP.ku (b := true) rfl rfl ?_
                    refine WP.ku (b := true) rfl rfl ?_
                    refine WP.ku (b := true) rfl rfl ?_
                    refine WP.ku (b := true) rfl rfl ?_
                    refine WP.ku (b := true) rfl rfl ?_
                    refine WP.ku (b := true) rfl rfl ?_
                    refine WP.s .n (O.pickT rfl rfl) ?_
                    refine WP.nil ?_
                    refine QE.next ?_
                    refine CW.condT rfl ?_
                    refine CW.exit ?_
                    refine QE.thenE ?_
                    refine QE.blkH ?_
                    refine QE.next ?_
                    refine CW.region ?_
                    refine WP.s .n (O.mv rfl) ?_
                    refine WP.s .n (O.add rfl rfl (c := (b + 1)) (w64 (by omega))) ?_
                    refine WP.s .n (O.asg rfl) ?_
                    refine WP.nil ?_
                    refine ST.obtold 0 rfl (OB.row_eq (ys := (out ++ rowT d a (b + 1 - (1 - a)).toNat)) (rowT_no hb1 (fun h => h.2.2.1 ⟨h_t61, h_t66⟩))) ?_
                    exact QE.round2 (b + 1) v (by omega) (by omega) (Imp.cons rfl (Imp.cons rfl (Imp.cons rfl (Imp.cons rfl Imp.nil)))) (OImp.os (OS.keepLe (OB.row_eq (by first | rfl | omega | assumption)) OS.nil))
                  · refine WP.s (.g rfl rfl) (O.mv rfl) ?_
                    refine WP.s (.g rfl rfl) (O.mv rfl) ?_
                    refine WP.s (.g rfl rfl) (O.fn fn132 (evs.c rfl (evs.c rfl evs.nil)) (c_ref22_gcd a b (by omega) (by omega))) ?_
                    refine WP.s (.g rfl rfl) (O.mv rfl) ?_
                    refine WP.s (.g rfl rfl) (O.fn fn132 (evs.c rfl (evs.c rfl evs.nil)) (c_ref22_gcd (Int.gcd a b : Int) (cT d a b) (by omega) (by omega))) ?_
                    refine WP.s (.g rfl rfl) (O.ne rfl rfl) ?_
                    refine WP.s .n (O.pickF rfl rfl) ?_
                    refine WP.nil ?_
                    refine QE.next ?_
                    refine CW.condD rfl (fun h_t73 => ?_) (fun h_t73 => ?_)
                    · refine CW.exit ?_
                      refine QE.thenE ?_
                      refine QE.blkH ?_
                      refine QE.next ?_
                      refine CW.region ?_
                      refine WP.s .n (O.mv rfl) ?_
                      refine WP.s .n (O.add rfl rfl (c := (b + 1)) (w64 (by omega))) ?_
                      refine WP.s .n (O.asg rfl) ?_
                      refine WP.nil ?_
                      refine ST.obtold 0 rfl (OB.row_eq (ys := (out ++ rowT d a (b + 1 - (1 - a)).toNat)) (rowT_no hb1 (fun h => h_t73 h.2.2.2))) ?_
                      exact QE.round2 (b + 1) v (by omega) (by omega) (Imp.cons rfl (Imp.cons rfl (Imp.cons rfl (Imp.cons rfl Imp.nil)))) (OImp.os (OS.keepLe (OB.row_eq (by first | rfl | omega | assumption)) OS.nil))
                    · refine CW.skip ?_
                      refine QE.next ?_
                      refine CW.region ?_
                      refine WP.s .n (O.mv rfl) ?_
                      refine WP.s .n (O.mv rfl) ?_
                      refine WP.s .n (O.fn fn78 (evs.l rfl (i64_int (by omega)) evs.nil) (c_ref02_Of a)) ?_
                      refine WP.s .n (O.mv rfl) ?_
                      refine WP.s .n (O.fn fn78 (evs.l rfl (i64_int (by omega)) evs.nil) (c_ref02_Of b)) ?_
                      refine WP.s .n (O.mv rfl) ?_
                      refine WP.s .n (O.fn fn78 (evs.l rfl (i64_int (by omega)) evs.nil) (c_ref02_Of (cT d a b))) ?_
                      refine WP.s .n (O.bld lit47_pr_C_pr_C_C__ rfl (evp.c rfl (evp.c rfl (evp.c rfl evp.n))) (.cons rfl (Lens.fst (Lens.id _)) (.cons rfl (Lens.snd (Lens.fst (Lens.id _))) (.cons rfl (Lens.snd (Lens.snd (Lens.id _))) (.nil _))))) ?_
                      refine WP.s .n (O.bs Try.underlying104 el47_pr_C_pr_C_C__ (evl.c rfl evl.n) rfl (by decide)) ?_
                      refine WP.ap 0 .n rfl rfl rfl (VP.le_refl _) Try.underlying104 el47_pr_C_pr_C_C__ (by simp; omega) fun v1 => ?_
                      refine WP.s .n (O.asg rfl) ?_
                      refine WP.nil ?_
                      refine QE.blkN ?_
                      refine QE.next ?_
                      refine CW.region ?_
                      refine WP.s .n (O.mv rfl) ?_
                      refine WP.s .n (O.add rfl rfl (c := (b + 1)) (w64 (by omega))) ?_
                      refine WP.s .n (O.asg rfl) ?_
                      refine WP.nil ?_
                      refine ST.obtold 0 rfl (OB.row_eq (ys := (out ++ rowT d a (b + 1 - (1 - a)).toNat)) (rowT_yes hb1 ⟨hm0, h_t57, (fun h => h_t66 h.2), (by omega)⟩)) ?_
                      exact QE.round2 (b + 1) v1 (by omega) (by omega) (Imp.cons rfl (Imp.cons rfl (Imp.cons rfl (Imp.cons rfl Imp.nil)))) (OImp.os (OS.keepLe (OB.row_eq (by first | rfl | omega | assumption)) OS.nil))
                · refine WP.ku (b := false) rfl rfl ?_
                  refine WP.ku (b := false) rfl rfl ?_
                  refine WP.s (.g rfl rfl) (O.pickF rfl rfl) ?_
                  refine WP.s .n (O.pickF rfl rfl) ?_
                  refine WP.s .n (O.mv rfl) ?_
                  refine WP.s (.g rfl rfl) (O.mv rfl) ?_
                  refine WP.s (.g rfl rfl) (O.mv rfl) ?_
                  refine WP.s (.g rfl rfl) (O.fn fn132 (evs.c rfl (evs.c rfl evs.nil)) (c_ref22_gcd a b (by omega) (by omega))) ?_
                  refine WP.s (.g rfl rfl) (O.mv rfl) ?_
                  refine WP.s (.g rfl rfl) (O.fn fn132 (evs.c rfl (evs.c rfl evs.nil)) (c_ref22_gcd (Int.gcd a b : Int) (cT d a b) (by omega) (by omega))) ?_
                  refine WP.s (.g rfl rfl) (O.ne rfl rfl) ?_
                  refine WP.s .n (O.pickF rfl rfl) ?_
                  refine WP.nil ?_
                  refine QE.next ?_
                  refine CW.condD rfl (fun h_t73 => ?_) (fun h_t73 => ?_)
                  · refine CW.exit ?_
                    refine QE.thenE ?_
                    refine QE.blkH ?_
                    refine QE.next ?_
                    refine CW.region ?_
                    refine WP.s .n (O.mv rfl) ?_
                    refine WP.s .n (O.add rfl rfl (c := (b + 1)) (w64 (by omega))) ?_
                    refine WP.s .n (O.asg rfl) ?_
                    refine WP.nil ?_
                    refine ST.obtold 0 rfl (OB.row_eq (ys := (out ++ rowT d a (b + 1 - (1 - a)).toNat)) (rowT_no hb1 (fun h => h_t73 h.2.2.2))) ?_
                    exact QE.round2 (b + 1) v (by omega) (by omega) (Imp.cons rfl (Imp.cons rfl (Imp.cons rfl (Imp.cons rfl Imp.nil)))) (OImp.os (OS.keepLe (OB.row_eq (by first | rfl | omega | assumption)) OS.nil))
                  · refine CW.skip ?_
                    refine QE.next ?_
                    refine CW.region ?_
                    refine WP.s .n (O.mv rfl) ?_
                    refine WP.s .n (O.mv rfl) ?_
                    refine WP.s .n (O.fn fn78 (evs.l rfl (i64_int (by omega)) evs.nil) (c_ref02_Of a)) ?_
                    refine WP.s .n (O.mv rfl) ?_
                    refine WP.s .n (O.fn fn78 (evs.l rfl (i64_int (by omega)) evs.nil) (c_ref02_Of b)) ?_
                    refine WP.s .n (O.mv rfl) ?_
                    refine WP.s .n (O.fn fn78 (evs.l rfl (i64_int (by omega)) evs.nil) (c_ref02_Of (cT d a b))) ?_
                    refine WP.s .n (O.bld lit47_pr_C_pr_C_C__ rfl (evp.c rfl (evp.c rfl (evp.c rfl evp.n))) (.cons rfl (Lens.fst (Lens.id _)) (.cons rfl (Lens.snd (Lens.fst (Lens.id _))) (.cons rfl (Lens.snd (Lens.snd (Lens.id _))) (.nil _))))) ?_
                    refine WP.s .n (O.bs Try.underlying104 el47_pr_C_pr_C_C__ (evl.c rfl evl.n) rfl (by decide)) ?_
                    refine WP.ap 0 .n rfl rfl rfl (VP.le_refl _) Try.underlying104 el47_pr_C_pr_C_C__ (by simp; omega) fun v2 => ?_
                    refine WP.s .n (O.asg rfl) ?_
                    refine WP.nil ?_
                    refine QE.blkN ?_
                    refine QE.next ?_
                    refine CW.region ?_
                    refine WP.s .n (O.mv rfl) ?_
                    refine WP.s .n (O.add rfl rfl (c := (b + 1)) (w64 (by omega))) ?_
                    refine WP.s .n (O.asg rfl) ?_
                    refine WP.nil ?_
                    refine ST.obtold 0 rfl (OB.row_eq (ys := (out ++ rowT d a (b + 1 - (1 - a)).toNat)) (rowT_yes hb1 ⟨hm0, h_t57, (fun h => h_t61 h.1), (by omega)⟩)) ?_
                    exact QE.round2 (b + 1) v2 (by omega) (by omega) (Imp.cons rfl (Imp.cons rfl (Imp.cons rfl (Imp.cons rfl Imp.nil)))) (OImp.os (OS.keepLe (OB.row_eq (by first | rfl | omega | assumption)) OS.nil))
          · refine CW.exit ?_
            refine QE.thenE ?_
            refine QE.thenE ?_
            refine QE.blkH ?_
            refine QE.blkN ?_
            refine QE.next ?_
            refine CW.region ?_
            refine WP.s .n (O.mv rfl) ?_
            refine WP.s .n (O.add rfl rfl (c := (a + 1)) (w64 (by omega))) ?_
            refine WP.s .n (O.asg rfl) ?_
            refine WP.nil ?_
            exact QE.round3 (a + 1) (out ++ rowT d a (b - (1 - a)).toNat) v (by omega) (clR_s hd1 hC h3 (by omega)) (Imp.cons rfl (Imp.cons rfl (Imp.cons rfl Imp.nil))) (OImp.refl _)
        · have h3 : ¬ 3 * a * a ≤ -d := by omega
          refine CW.exit ?_
          refine QE.thenE ?_
          refine QE.thenE ?_
          refine QE.blkH ?_
          refine QE.next ?_
          refine CW.seq ?_
          refine CW.region ?_
          refine WP.s .n (O.mv rfl) ?_
          refine WP.s .n (O.asg rfl) ?_
          refine WP.s .n (O.asg rfl) ?_
          refine WP.nil ?_
          refine QE.next ?_
          refine CW.ret ?_
          refine ST.freeze 0 rfl (.keep (i := 0) rfl (.hit (i := 2) rfl (.keep (i := 3) rfl (.hit (i := 4) rfl (.keep (i := 5) rfl (.keep (i := 21) rfl (.keep (i := 22) rfl (.keep (i := 23) rfl (.keep (i := 24) rfl (.keep (i := 25) rfl (.keep (i := 26) rfl (.keep (i := 27) rfl (.hit (i := 84) rfl .nil))))))))))))) ?_
          have hV := clV_2 (d := d) (by omega)
          refine ST.told 2 rfl (is_eq (y := ((clV d).1)) (by rw [hV]; exact clR_end hC h3)) ?_
          refine ST.told 3 rfl (is_eq (y := ((clV d).2)) (by rw [hV])) ?_
          exact QE.done (.inl rfl) rfl (ResOk.t rfl (ResOk.t rfl ResOk.nil)) (OImp.sub (List.nil_sublist _)) ⟨rfl, rfl⟩

set_option maxRecDepth 20000 in
set_option maxHeartbeats 1000000 in
theorem c_law22_QuadClasses (d : Int) : Fn Try.prog 11 [kI64.is d] (kBool.is true) := by
  refine Con.enter Try.func11 rfl rfl fun m w => ?_
  refine CW.seq ?_
  refine CW.region ?_
  refine WP.s .n (O.asg rfl) ?_
  refine WP.nil ?_
  refine QE.next ?_
  refine CW.seq ?_
  refine CW.region ?_
  refine WP.s .n (O.mv rfl) ?_
  refine WP.s .n (O.fn fn64 (evs.l rfl (i64_le _) evs.nil) (c_quad_Classes d)) ?_
  refine WP.s .n (O.mv rfl) ?_
  refine WP.s .n (O.ext rfl rfl) ?_
  refine WP.s .n (O.ext rfl rfl) ?_
  refine WP.s .n (O.asg rfl) ?_
  refine WP.s .n (O.asg rfl) ?_
  refine WP.nil ?_
  refine QE.next ?_
  refine CW.seq ?_
  refine CW.region ?_
  refine WP.s .n (O.mv rfl) ?_
  refine WP.s .n (O.fn fn65 (evs.l rfl (i64_le _) evs.nil) (c_ref22_Classes d)) ?_
  refine WP.s .n (O.mv rfl) ?_
  refine WP.s .n (O.ext rfl rfl) ?_
  refine WP.s .n (O.ext rfl rfl) ?_
  refine WP.s .n (O.asg rfl) ?_
  refine WP.s .n (O.asg rfl) ?_
  refine WP.nil ?_
  refine QE.next ?_
  refine CW.seq ?_
  refine CW.seq ?_
  refine CW.region ?_
  refine WP.s .n (O.mv rfl) ?_
  refine WP.s .n (O.mv rfl) ?_
  refine WP.s .n (O.ne rfl rfl) ?_
  refine WP.s .n (O.mv rfl) ?_
  refine WP.splitD 21 rfl (fun h => absurd h (fun h => h rfl)) (fun h_t21 => ?_)
  refine WP.s (.g rfl rfl) (O.mv rfl) ?_
  refine WP.s (.g rfl rfl) (O.lenS rfl Try.underlying104) ?_
  refine WP.s (.g rfl rfl) (O.mv rfl) ?_
  refine WP.s (.g rfl rfl) (O.lenS rfl Try.underlying104) ?_
  refine WP.s (.g rfl rfl) (O.ne rfl rfl) ?_
  refine WP.s .n (O.pickF rfl rfl) ?_
  refine WP.nil ?_
  refine QE.next ?_
  refine CW.condD rfl (fun h => absurd h (fun h => h rfl)) (fun h_t27 => ?_)
  refine CW.skip ?_
  refine QE.next ?_
  refine CW.seq ?_
  refine CW.seq ?_
  refine CW.region ?_
  refine WP.s .n (O.asg rfl) ?_
  refine WP.nil ?_
  refine QE.next ?_
  refine CW.block ?_
  refine ST.fact (i := 3) rfl sl_len fun hB => ?_
  refine CW.loop (fun (i : Nat) => i ≤ (clV d).1.length) (fun (i : Nat) => [(3, (kSl (kPair kC (kPair kC kC))).is ((clV d).1)), (5, (kSl (kPair kC (kPair kC kC))).is ((clV d).1)), (7, (kInt .i64).is (i : Int))]) (fun (i : Nat) => []) (fun (i : Nat) => (clV d).1.length - i) 0 (by omega) (Imp.cons rfl (Imp.cons rfl (Imp.consLe rfl (is_eq (y := (0 : Int)) (by first | rfl | simp)) Imp.nil))) (OImp.refl _) ?_
  intro i hi
  refine CW.seq ?_
  refine CW.seq ?_
  refine CW.region ?_
  refine WP.s .n (O.mv rfl) ?_
  refine WP.s .n (O.mv rfl) ?_
  refine WP.s .n (O.lenS rfl Try.underlying104) ?_
  refine WP.s .n (O.lt rfl rfl) ?_
  refine WP.nil ?_
  refine QE.next ?_
  refine CW.condD rfl (fun h_t31 => ?_) (fun h_t31 => ?_)
  · refine CW.skip ?_
    refine QE.next ?_
    refine CW.seq ?_
    refine CW.block ?_
    refine CW.seq ?_
    refine CW.draw (Γ := [.fr ((kSl (kPair kC (kPair kC kC))).is ((clV d).1)), .fr ((kInt .i64).is (i : Int)), .fr (VP.pim (kPair kC (kPair kC kC)) (((clV d).1).getD i (0, (0, 0)))), .fr (VP.pim kC ((((clV d).1).getD i (0, (0, 0))).1)), .fr (kC.is ((((clV d).1).getD i (0, (0, 0))).1)), .fr ((kSl (kPair kC (kPair kC kC))).is ((clV d).1)), .fr ((kInt .i64).is (i : Int)), .fr (VP.pim (kPair kC (kPair kC kC)) (((clV d).1).getD i (0, (0, 0)))), .fr (VP.pim kC ((((clV d).1).getD i (0, (0, 0))).1)), .fr (kC.is ((((clV d).1).getD i (0, (0, 0))).1)), .fr (kBool.is true), .fr (kBool.is false), .fr (kBool.is false), .fr ((kSl (kPair kC (kPair kC kC))).is ((clV d).1)), .fr ((kInt .i64).is (i : Int)), .fr (VP.pim (kPair kC (kPair kC kC)) (((clV d).1).getD i (0, (0, 0)))), .fr (VP.pim kC (((((clV d).1).getD i (0, (0, 0))).2).1)), .fr (kC.is (((((clV d).1).getD i (0, (0, 0))).2).1)), .fr ((kSl (kPair kC (kPair kC kC))).is ((clV d).1)), .fr ((kInt .i64).is (i : Int)), .fr (VP.pim (kPair kC (kPair kC kC)) (((clV d).1).getD i (0, (0, 0)))), .fr (VP.pim kC (((((clV d).1).getD i (0, (0, 0))).2).1)), .fr (kC.is (((((clV d).1).getD i (0, (0, 0))).2).1)), .fr (kBool.is true), .fr (kBool.is false), .fr (kBool.is false), .fr (kBool.is false), .fr ((kSl (kPair kC (kPair kC kC))).is ((clV d).1)), .fr ((kInt .i64).is (i : Int)), .fr (VP.pim (kPair kC (kPair kC kC)) (((clV d).1).getD i (0, (0, 0)))), .fr (VP.pim kC (((((clV d).1).getD i (0, (0, 0))).2).2)), .fr (kC.is (((((clV d).1).getD i (0, (0, 0))).2).2)), .fr ((kSl (kPair kC (kPair kC kC))).is ((clV d).1)), .fr ((kInt .i64).is (i : Int)), .fr (VP.pim (kPair kC (kPair kC kC)) (((clV d).1).getD i (0, (0, 0)))), .fr (VP.pim kC (((((clV d).1).getD i (0, (0, 0))).2).2)), .fr (kC.is (((((clV d).1).getD i (0, (0, 0))).2).2)), .fr (kBool.is true), .fr (kBool.is false), .fr (kBool.is false)]) (lates := [false, false, false, false, false, false, false, false, false, false, false, false, false, false, false, false, false, false, false, false, false, false, false, false, false, false, false, false, false, false, false, false, false, false, false, false, false, false, false, false]) (by kernel_rfl) (Chk.of rfl (by kernel_rfl) rfl) (fun _ _ _ _ _ h => h) (fun q_ x_ h_ => ?_) (fun σ1 => ?_)
    · match q_, h_ with
      | 0, h_ => cases h_; exact Ob.f rfl .n fun N => (O.mv rfl)
      | 1, h_ => cases h_; exact Ob.f rfl .n fun N => (O.mv rfl)
      | 2, h_ => cases h_; exact Ob.f rfl .n fun N => (O.ix i rfl rfl Try.underlying104 ty47 rfl (v := (((clV d).1).getD i (0, (0, 0)))) (gd (0, (0, 0)) (by omega)))
      | 3, h_ => cases h_; exact Ob.f rfl .n fun N => (O.faP rfl fld47_0 (Lens.fst (Lens.id _)) rfl)
      | 4, h_ => cases h_; exact Ob.f rfl .n fun N => (O.ldP rfl ty31)
      | 5, h_ => cases h_; exact Ob.f rfl .n fun N => (O.mv rfl)
      | 6, h_ => cases h_; exact Ob.f rfl .n fun N => (O.mv rfl)
      | 7, h_ => cases h_; exact Ob.f rfl .n fun N => (O.ix i rfl rfl Try.underlying104 ty47 rfl (v := (((clV d).1).getD i (0, (0, 0)))) (gd (0, (0, 0)) (by omega)))
      | 8, h_ => cases h_; exact Ob.f rfl .n fun N => (O.faP rfl fld47_0 (Lens.fst (Lens.id _)) rfl)
      | 9, h_ => cases h_; exact Ob.f rfl .n fun N => (O.ldP rfl ty31)
      | 10, h_ => cases h_; exact Ob.f rfl .n fun N => (OpOk.le (O.fn fn29 (evs.l rfl (kC_I _) (evs.l rfl (kC_I _) evs.nil)) (c_law22_eq (canon ((((clV d).1).getD i (0, (0, 0))).1)) (canon ((((clV d).1).getD i (0, (0, 0))).1)))) (is_eq (by simp)))
      | 11, h_ => cases h_; exact Ob.f rfl .n fun N => (OpOk.le (O.not (a := true) rfl) (is_eq rfl))
      | 12, h_ => cases h_; exact Ob.f rfl .n fun N => (O.mv rfl)
      | 13, h_ => cases h_; exact Ob.f rfl (.g rfl rfl) fun N => (O.mv rfl)
      | 14, h_ => cases h_; exact Ob.f rfl (.g rfl rfl) fun N => (O.mv rfl)
      | 15, h_ => cases h_; exact Ob.f rfl (.g rfl rfl) fun N => (O.ix i rfl rfl Try.underlying104 ty47 rfl (v := (((clV d).1).getD i (0, (0, 0)))) (gd (0, (0, 0)) (by omega)))
      | 16, h_ => cases h_; exact Ob.f rfl (.g rfl rfl) fun N => (O.faP rfl fld47_1 (Lens.snd (Lens.fst (Lens.id _))) rfl)
      | 17, h_ => cases h_; exact Ob.f rfl (.g rfl rfl) fun N => (O.ldP rfl ty31)
      | 18, h_ => cases h_; exact Ob.f rfl (.g rfl rfl) fun N => (O.mv rfl)
      | 19, h_ => cases h_; exact Ob.f rfl (.g rfl rfl) fun N => (O.mv rfl)
      | 20, h_ => cases h_; exact Ob.f rfl (.g rfl rfl) fun N => (O.ix i rfl rfl Try.underlying104 ty47 rfl (v := (((clV d).1).getD i (0, (0, 0)))) (gd (0, (0, 0)) (by omega)))
      | 21, h_ => cases h_; exact Ob.f rfl (.g rfl rfl) fun N => (O.faP rfl fld47_1 (Lens.snd (Lens.fst (Lens.id _))) rfl)
      | 22, h_ => cases h_; exact Ob.f rfl (.g rfl rfl) fun N => (O.ldP rfl ty31)
      | 23, h_ => cases h_; exact Ob.f rfl (.g rfl rfl) fun N => (OpOk.le (O.fn fn29 (evs.l rfl (kC_I _) (evs.l rfl (kC_I _) evs.nil)) (c_law22_eq (canon (((((clV d).1).getD i (0, (0, 0))).2).1)) (canon (((((clV d).1).getD i (0, (0, 0))).2).1)))) (is_eq (by simp)))
      | 24, h_ => cases h_; exact Ob.f rfl (.g rfl rfl) fun N => (OpOk.le (O.not (a := true) rfl) (is_eq rfl))
      | 25, h_ => cases h_; exact Ob.f rfl .n fun N => (O.pickF rfl rfl)
      | 26, h_ => cases h_; exact Ob.f rfl .n fun N => (O.mv rfl)
      | 27, h_ => cases h_; exact Ob.f rfl (.g rfl rfl) fun N => (O.mv rfl)
      | 28, h_ => cases h_; exact Ob.f rfl (.g rfl rfl) fun N => (O.mv rfl)
      | 29, h_ => cases h_; exact Ob.f rfl (.g rfl rfl) fun N => (O.ix i rfl rfl Try.underlying104 ty47 rfl (v := (((clV d).1).getD i (0, (0, 0)))) (gd (0, (0, 0)) (by omega)))
      | 30, h_ => cases h_; exact Ob.f rfl (.g rfl rfl) fun N => (O.faP rfl fld47_2 (Lens.snd (Lens.snd (Lens.id _))) rfl)
      | 31, h_ => cases h_; exact Ob.f rfl (.g rfl rfl) fun N => (O.ldP rfl ty31)
      | 32, h_ => cases h_; exact Ob.f rfl (.g rfl rfl) fun N => (O.mv rfl)
      | 33, h_ => cases h_; exact Ob.f rfl (.g rfl rfl) fun N => (O.mv rfl)
      | 34, h_ => cases h_; exact Ob.f rfl (.g rfl rfl) fun N => (O.ix i rfl rfl Try.underlying104 ty47 rfl (v := (((clV d).1).getD i (0, (0, 0)))) (gd (0, (0, 0)) (by omega)))
      | 35, h_ => cases h_; exact Ob.f rfl (.g rfl rfl) fun N => (O.faP rfl fld47_2 (Lens.snd (Lens.snd (Lens.id _))) rfl)
      | 36, h_ => cases h_; exact Ob.f rfl (.g rfl rfl) fun N => (O.ldP rfl ty31)
      | 37, h_ => cases h_; exact Ob.f rfl (.g rfl rfl) fun N => (OpOk.le (O.fn fn29 (evs.l rfl (kC_I _) (evs.l rfl (kC_I _) evs.nil)) (c_law22_eq (canon (((((clV d).1).getD i (0, (0, 0))).2).2)) (canon (((((clV d).1).getD i (0, (0, 0))).2).2)))) (is_eq (by simp)))
      | 38, h_ => cases h_; exact Ob.f rfl (.g rfl rfl) fun N => (OpOk.le (O.not (a := true) rfl) (is_eq rfl))
      | 39, h_ => cases h_; exact Ob.f rfl .n fun N => (O.pickF rfl rfl)
      | n_ + 40, h_ => simp at h_
    refine WP.nil ?_
    refine QE.next ?_
    refine CW.condF rfl ?_
    refine CW.skip ?_
    refine QE.blkN ?_
    refine QE.next ?_
    refine CW.region ?_
    refine WP.s .n (O.mv rfl) ?_
    refine WP.s .n (O.add rfl rfl (c := ((i : Int) + 1)) (w64 (by omega))) ?_
    refine WP.s .n (O.asg rfl) ?_
    refine WP.nil ?_
    exact QE.round (i + 1) (by omega) (by omega) (Imp.cons rfl (Imp.cons rfl (Imp.consLe rfl (is_eq (y := (((i + 1) : Nat) : Int)) (by first | rfl | simp)) Imp.nil))) (OImp.refl _)
  · refine CW.exit ?_
    refine QE.thenE ?_
    refine QE.thenE ?_
    refine QE.blkH ?_
    refine QE.next ?_
    refine CW.seq ?_
    refine CW.region ?_
    refine WP.s .n (O.asg rfl) ?_
    refine WP.nil ?_
    refine QE.next ?_
    refine CW.ret ?_
    exact QE.done (.inl rfl) rfl (ResOk.t rfl ResOk.nil) (OImp.sub (List.nil_sublist _)) ⟨rfl, rfl⟩

end Fw


/- Proved: QuadClasses, for every input of bulk at most 1048576; no other condition. -/
set_option linter.unusedVariables false
namespace Go.Proofs.Ytgbafijcklgajaa.quadClasses
open Go.ChangeShapes Go.WideShapes Go.ChangeAt Go.RowKit Fw
theorem rd3 : Rd Try.prog 3 kI64 (fun _ => True) := rd_i64 Try.underlying3
theorem own : ownKnob Try.prog.godebug = none := by kernel_rfl
theorem laidOut : laidOutB Try.prog = true := by kernel_rfl
set_option maxRecDepth 100000 in
theorem contract (H : Type) (enc : TypeId × Value → H) (W : World) (base : Nat) (args : Array Value) (ds gs : List (DataW H)) (before : List MemPlace)
    (hval : ∀ (j : Nat) t v, Try.f11.params[j]? = some t → args[j]? = some v → Value.okWide Try.prog W .any base t v)
    (hW : DataW.Whole enc Try.prog Try.f11.params.toList Rows.quadClassesSpec.vars false W args.toList ds gs before) (hk : Rows.uptoSmall H (ds ++ gs) = true) :
    Calls Try.prog 11 args W fun e W' => ∃ v, e = .returned v ∧ Rows.quadClassesSpec.post enc Try.prog Try.f11 false true false false W args v W' := by
  have hW' := hW
  obtain ⟨p, q, hA0, hV, rfl, hfz, hnd⟩ := hW
  have hA : DataW.TrodAll enc Try.prog W 0 (fun _ => true) true Try.f11.params.toList args.toList ds p := hA0
  rw [Try.params11] at hA hval
  obtain ⟨rfl, rfl⟩ := trodVars_none hV
  unfold Rows.uptoSmall at hk
  have hbulk := of_decide_eq_true hk
  rw [List.append_nil] at hbulk
  obtain ⟨v0, vs0, d0, ds0, p0, q0, hargs, rfl, rfl, h0, r0⟩ := trodAll_cons hA
  obtain ⟨rfl, rfl, rfl⟩ := trodAll_nil r0
  obtain rfl : args = [v0].toArray := by cases args; simp_all
  simp only [Rows.uptoBulkAll] at hbulk
  obtain ⟨x0, a0, b0⟩ := arg_i64 Try.underlying3 (hval 0 3 v0 rfl rfl) h0
  refine ((c_law22_QuadClasses x0).calls (vs := [v0]) ⟨a0, trivial⟩).mono fun e W' ⟨he, bel⟩ => ?_
  subst he
  exact ⟨_, rfl, _, _, _, [], _, [], hW', trodAll_mk1 (shut_bool Try.underlying4 _), below_all laidOut bel (by kernel_rfl) hA0 (fun x hx => by simpa using hW'.lt x (by simpa using hx)), rfl, bel.frame _, fun h => by cases h⟩
set_option maxRecDepth 100000 in
theorem lifted (os : Os) (started : os.Started) (H : Type) (enc : TypeId × Value → H) (F : Stop.Interp) :
    ReturnsInHanded {} Try.checked os 11 .any ((Rows.OpenSpec.upto Rows.quadClassesSpec).pre6 enc Try.prog Try.f11 Rows.quadClassesUptoRow.domain false) (((Rows.OpenSpec.upto Rows.quadClassesSpec).at F).post enc Try.prog Try.f11 false true false false) := by
  refine returnsInHanded_of_cond (C := Try.checked) (s := Rows.OpenSpec.upto Rows.quadClassesSpec) (k := Rows.uptoSmall) rfl own started (by kernel_rfl) Try.func11
    (OpenSpec.witness (enc := enc) (C := Try.checked) (s := Rows.OpenSpec.upto Rows.quadClassesSpec) (k := Rows.uptoSmall) rfl false ⟨#[], #[.int .i64 0], []⟩ 8 (by kernel_rfl) (by kernel_rfl) (by kernel_rfl)
      (x := ([.lit (.int .i64 0)], [], [])) (by kernel_rfl) rfl (by kernel_rfl)) ?_
  intro W base args ds gs before hval hW _ hk _
  exact contract H enc W base args ds gs before hval hW hk
theorem over : Rows.quadClassesUptoRow.holds Try.pinned (Rows.OpenSpec.upto Rows.quadClassesSpec) :=
  OpenClaim.holds_of_cond 11 Try.f11 rfl rfl rfl rfl rfl rfl rfl ⟨rfl, rfl, rfl, rfl, rfl⟩ rfl rfl rfl rfl rfl (by kernel_rfl) Try.func11 (by kernel_rfl)
    (of_decide_eq_true (by kernel_rfl)) (by unfold Func.isWrapper; first | (rw [if_pos (by decide +kernel)]; kernel_rfl) | (rw [if_neg (by decide +kernel)]; exact ⟨rfl, rfl⟩))
    (fun os started H enc _ F => lifted os started H enc F)
theorem proved : Rows.QuadClassesUptoSaid := over
end Go.Proofs.Ytgbafijcklgajaa.quadClasses
