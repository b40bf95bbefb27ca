/- Proved: QuadValues, for every input of bulk at most 1048576; no other condition. -/
import Derived.Test.YtgbafijcklgajaaCQuadValuesE
/- Elimination by fractions; the document on forms; QuadValues. -/
set_option linter.unusedVariables false
set_option linter.unusedSimpArgs false
set_option exponentiation.threshold 400
namespace Fw
open Go Go.Proofs

set_option maxRecDepth 20000 in
set_option maxHeartbeats 1000000 in
theorem c_ref06_zero (n : Nat) (p : Rat) (hp : RZ n p) (hn : n ≤ 68719476736) : Fn Try.prog 246 [(kPair kC kC).is (rq p)] (kBool.is (decide (p = 0))) := by
  refine Con.enter Try.func246 rfl rfl fun m w => ?_
  refine CW.seq ?_
  refine CW.region ?_
  refine WP.bx .n rfl fun b1 => ?_
  refine WP.s .n (O.asg rfl) ?_
  refine WP.nil ?_
  refine QE.next ?_
  refine CW.seq ?_
  refine CW.region ?_
  refine WP.s .n (O.fa rfl fld60_0 rfl) ?_
  refine WP.s .n (O.ld rfl (mem_at 0 rfl) (Lens.fst (Lens.id _)) ty31 rfl) ?_
  refine WP.s .n (O.fn fn83 (evs.l rfl (kC_Z (by exact hp.a.sm (by omega))) evs.nil) (c_ref02_Sign ((rq p).1))) ?_
  refine WP.s .n (O.eq rfl rfl) ?_
  refine WP.s .n (O.asg rfl) ?_
  refine WP.nil ?_
  refine QE.next ?_
  refine CW.ret ?_
  refine ST.told 2 rfl (is_eq (y := (decide (p = 0))) (decide_eq_decide.2 rq_zero)) ?_
  exact QE.done (.inl rfl) rfl (ResOk.t rfl ResOk.nil) (OImp.sub (List.nil_sublist _)) ⟨rfl, rfl⟩

set_option maxRecDepth 20000 in
set_option maxHeartbeats 1000000 in
theorem c_ref06_lose (n s i k : Nat) (f : Fq) (q : Rat) (vO : Value) (vs : List Value) (hv : vs.length = n) (hn12 : n ≤ 12) (hi : i < n) (hk : k < n) (hik : i ≠ k) (hs : s ≤ 4317512248) (hf : ∀ b, RZ s (f i b)) (hfk : ∀ b, RZ (s + s) (f k b)) (hq : RZ s q) : Con Try.prog 250 [VP.ex vO, (kInt .i64).is (i : Int), (kInt .i64).is (k : Int), (kPair kC kC).is (rq q)] [OB.row vO 195 kVal vs, OB.fam vs 60 (kPair kC kC) (tabR n n f)] (fun p Lo => p = VP.tup [] ∧ Lo = [OB.row vO 195 kVal vs, OB.fam vs 60 (kPair kC kC) (tabR n n (loseF f i k q n))] ∧ True) := by
  refine Con.enter Try.func250 rfl rfl fun m w => ?_
  refine CW.seq ?_
  refine CW.region ?_
  refine WP.bx .n rfl fun b1 => ?_
  refine WP.nil ?_
  refine QE.next ?_
  refine CW.seq ?_
  refine CW.region ?_
  refine WP.s .n (O.asg rfl) ?_
  refine WP.nil ?_
  refine QE.next ?_
  refine CW.block ?_
  refine ST.obtold 2 rfl (OB.fam_eq rfl (yss := (tabR n n (loseF f i k q 0))) (by rw [loseF_0])) ?_
  refine CW.loop (fun (c : Nat) => c ≤ n) (fun (c : Nat) => [(0, VP.ex vO), (1, (kInt .i64).is (i : Int)), (2, (kInt .i64).is (k : Int)), (7, VP.ex (.pointer (some ⟨b1, 0, none⟩))), (8, (kInt .i64).is (c : Int))]) (fun (c : Nat) => [OB.box b1 60 (kPair kC kC) (rq q), OB.row vO 195 kVal vs, OB.fam vs 60 (kPair kC kC) (tabR n n (loseF f i k q c))]) (fun (c : Nat) => n - c) 0 (by omega) (Imp.cons rfl (Imp.cons rfl (Imp.cons rfl (Imp.cons rfl (Imp.consLe rfl (is_eq (y := (0 : Int)) (by first | rfl | omega | assumption)) Imp.nil))))) (OImp.refl _) ?_
  intro c hc
  refine CW.seq ?_
  refine CW.seq ?_
  refine CW.region ?_
  refine WP.s .n (O.mv rfl) ?_
  refine WP.s .n (O.mv rfl) ?_
  refine WP.s .n (O.mv rfl) ?_
  refine WP.s .n (O.ixR (k := kVal) (xs := vs) (n := (i : Int)) i rfl rfl (mem_at 1 rfl) Try.underlying194 ty195 rfl (by first | omega | (rw [tabR_rlen (by omega)]; omega))) ?_
  refine WP.s .n (OpOk.le (O.ldR i rfl (mem_at 1 rfl) (Lens.id _) rfl (y := (vs.getD i nilV)) (gd nilV (by first | omega | (rw [tabR_rlen (by omega)]; omega))) ty195 rfl) (val_ex _)) ?_
  refine WP.s .n (O.lenF i rfl (mem_at 2 rfl) rfl (by first | omega | (rw [tabR_rlen (by omega)]; omega)) Try.underlying195) ?_
  refine ST.told 14 rfl (is_eq (y := (n : Int)) (by rw [tabR_rlen hi])) ?_
  refine WP.s .n (O.lt rfl rfl) ?_
  refine WP.nil ?_
  refine QE.next ?_
  refine CW.condD rfl (fun h_t15 => ?_) (fun h_t15 => ?_)
  · refine CW.skip ?_
    refine QE.next ?_
    refine CW.seq ?_
    refine CW.block ?_
    refine CW.draw (Γ := [.fr (VP.ex vO), .fr ((kInt .i64).is (i : Int)), .fr (VP.pel vO (i * 1)), .fr (VP.ex (vs.getD i nilV)), .fr ((kInt .i64).is (c : Int)), .fr (VP.ex vO), .fr ((kInt .i64).is (i : Int)), .fr (VP.pel vO (i * 1)), .fr (VP.ex (vs.getD i nilV)), .fr ((kInt .i64).is (c : Int)), .fr (VP.pel (vs.getD i nilV) (c * 4)), .fr ((kPair kC kC).is (rq (f i c))), .fr ((kPair kC kC).is (rq q)), .fr (VP.ex vO), .fr ((kInt .i64).is (k : Int)), .fr (VP.pel vO (k * 1)), .fr (VP.ex (vs.getD k nilV)), .fr ((kInt .i64).is (c : Int)), .fr (VP.pel (vs.getD k nilV) (c * 4)), .fr ((kPair kC kC).is (rq (f k c))), .fr ((kPair kC kC).is (rq (q * (f k c)))), .fr ((kPair kC kC).is (rq ((f i c) - (q * f k c)))), .fr (VP.pel (vs.getD i nilV) (c * 4))]) (lates := [false, false, false, false, false, false, false, false, false, false, false, false, false, false, false, false, false, false, false, false, false, false, false]) (by kernel_rfl) (Chk.of rfl (by kernel_rfl) rfl) (fun _ _ _ _ _ h => h) (fun q_ x_ h_ => ?_) (fun σ1 => ?_)
    · match q_, h_ with
      | 0, h_ => cases h_; exact Ob.f rfl .n fun N => (O.mv rfl)
      | 1, h_ => cases h_; exact Ob.f rfl .n fun N => (O.mv rfl)
      | 2, h_ => cases h_; exact Ob.f rfl .n fun N => (O.ixR (k := kVal) (xs := vs) (n := (i : Int)) i rfl rfl (mem_app N (mem_at 1 rfl)) Try.underlying194 ty195 rfl (by first | omega | (rw [tabR_rlen (by omega)]; omega)))
      | 3, h_ => cases h_; exact Ob.f rfl .n fun N => (OpOk.le (O.ldR i rfl (mem_app N (mem_at 1 rfl)) (Lens.id _) rfl (y := (vs.getD i nilV)) (gd nilV (by first | omega | (rw [tabR_rlen (by omega)]; omega))) ty195 rfl) (val_ex _))
      | 4, h_ => cases h_; exact Ob.f rfl .n fun N => (O.mv rfl)
      | 5, h_ => cases h_; exact Ob.f rfl .n fun N => (O.mv rfl)
      | 6, h_ => cases h_; exact Ob.f rfl .n fun N => (O.mv rfl)
      | 7, h_ => cases h_; exact Ob.f rfl .n fun N => (O.ixR (k := kVal) (xs := vs) (n := (i : Int)) i rfl rfl (mem_app N (mem_at 1 rfl)) Try.underlying194 ty195 rfl (by first | omega | (rw [tabR_rlen (by omega)]; omega)))
      | 8, h_ => cases h_; exact Ob.f rfl .n fun N => (OpOk.le (O.ldR i rfl (mem_app N (mem_at 1 rfl)) (Lens.id _) rfl (y := (vs.getD i nilV)) (gd nilV (by first | omega | (rw [tabR_rlen (by omega)]; omega))) ty195 rfl) (val_ex _))
      | 9, h_ => cases h_; exact Ob.f rfl .n fun N => (O.mv rfl)
      | 10, h_ => cases h_; exact Ob.f rfl .n fun N => (O.ixF (e := 60) (k := (kPair kC kC)) (xss := (tabR n n (loseF f i k q c))) (n := (c : Int)) i c rfl rfl (mem_app N (mem_at 2 rfl)) rfl (by first | omega | (rw [tabR_rlen (by omega)]; omega)) Try.underlying195 ty60 rfl (by first | omega | (rw [tabR_rlen (by omega)]; omega)))
      | 11, h_ => cases h_; exact Ob.f rfl .n fun N => (O.ldF (k := (kPair kC kC)) (xss := (tabR n n (loseF f i k q c))) i c rfl (mem_app N (mem_at 2 rfl)) rfl (by first | omega | (rw [tabR_rlen (by omega)]; omega)) (Lens.id _) rfl (y := (rq (f i c))) (tabR_at2 (f i c) (by omega) (by omega) loseF_at) ty60 rfl)
      | 12, h_ => cases h_; exact Ob.f rfl .n fun N => (O.ld rfl (mem_app N (mem_at 0 rfl)) (Lens.id _) ty60 rfl)
      | 13, h_ => cases h_; exact Ob.f rfl .n fun N => (O.mv rfl)
      | 14, h_ => cases h_; exact Ob.f rfl .n fun N => (O.mv rfl)
      | 15, h_ => cases h_; exact Ob.f rfl .n fun N => (O.ixR (k := kVal) (xs := vs) (n := (k : Int)) k rfl rfl (mem_app N (mem_at 1 rfl)) Try.underlying194 ty195 rfl (by first | omega | (rw [tabR_rlen (by omega)]; omega)))
      | 16, h_ => cases h_; exact Ob.f rfl .n fun N => (OpOk.le (O.ldR k rfl (mem_app N (mem_at 1 rfl)) (Lens.id _) rfl (y := (vs.getD k nilV)) (gd nilV (by first | omega | (rw [tabR_rlen (by omega)]; omega))) ty195 rfl) (val_ex _))
      | 17, h_ => cases h_; exact Ob.f rfl .n fun N => (O.mv rfl)
      | 18, h_ => cases h_; exact Ob.f rfl .n fun N => (O.ixF (e := 60) (k := (kPair kC kC)) (xss := (tabR n n (loseF f i k q c))) (n := (c : Int)) k c rfl rfl (mem_app N (mem_at 2 rfl)) rfl (by first | omega | (rw [tabR_rlen (by omega)]; omega)) Try.underlying195 ty60 rfl (by first | omega | (rw [tabR_rlen (by omega)]; omega)))
      | 19, h_ => cases h_; exact Ob.f rfl .n fun N => (O.ldF (k := (kPair kC kC)) (xss := (tabR n n (loseF f i k q c))) k c rfl (mem_app N (mem_at 2 rfl)) rfl (by first | omega | (rw [tabR_rlen (by omega)]; omega)) (Lens.id _) rfl (y := (rq (f k c))) (tabR_at2 (f k c) (by omega) (by omega) (loseF_k hik)) ty60 rfl)
      | 20, h_ => cases h_; exact Ob.f rfl .n fun N => (O.fn fn248 (evs.c rfl (evs.c rfl evs.nil)) (c_ref03_Mul (s + s) q (f k c) (hq.up (by omega)) (hfk c) (by omega)))
      | 21, h_ => cases h_; exact Ob.f rfl .n fun N => (O.fn fn252 (evs.c rfl (evs.l rfl (is_eq (y := rq (q * f k c)) (by first | rfl | omega | assumption)) evs.nil)) (c_ref03_Sub (s + s + s) (f i c) (q * f k c) ((hf c).up (by omega)) ((hq.mul (hfk c)).up (by omega)) (by omega)))
      | 22, h_ => cases h_; exact Ob.f rfl .n fun N => (O.ixF (e := 60) (k := (kPair kC kC)) (xss := (tabR n n (loseF f i k q c))) (n := (c : Int)) i c rfl rfl (mem_app N (mem_at 2 rfl)) rfl (by first | omega | (rw [tabR_rlen (by omega)]; omega)) Try.underlying195 ty60 rfl (by first | omega | (rw [tabR_rlen (by omega)]; omega)))
      | n_ + 23, h_ => simp at h_
    refine WP.t .n (O.stF 2 i c rfl rfl rfl (by first | omega | (rw [tabR_rlen (by omega)]; omega)) (Lens.id _) rfl (y0 := (((tabR n n (loseF f i k q c)).getD i []).getD c (0, 0))) (gd (0, 0) (by first | omega | (rw [tabR_rlen (by omega)]; omega))) ty60 rfl (VP.le_refl _)) ?_
    refine WP.nil ?_
    refine QE.blkN ?_
    refine QE.next ?_
    refine CW.region ?_
    refine WP.s .n (O.mv rfl) ?_
    refine WP.s .n (O.add rfl rfl (c := ((c : Int) + 1)) (w64 (by omega))) ?_
    refine WP.s .n (O.asg rfl) ?_
    refine WP.nil ?_
    refine ST.obtold 2 rfl (OB.fam_eq rfl (yss := (tabR n n (loseF f i k q (c + 1)))) (by rw [tabR_set (f i c - q * f k c) (by omega) (by omega), loseF_upd])) ?_
    exact QE.round (c + 1) (by omega) (by omega) (Imp.cons rfl (Imp.cons rfl (Imp.cons rfl (Imp.cons rfl (Imp.consLe rfl (is_eq (y := (((c + 1) : Nat) : Int)) (by first | rfl | omega | assumption)) Imp.nil))))) (OImp.refl _)
  · refine CW.exit ?_
    refine QE.thenE ?_
    refine QE.thenE ?_
    refine QE.blkH ?_
    refine ST.obtold 2 rfl (OB.fam_eq rfl (yss := (tabR n n (loseF f i k q n))) (by rw [show c = n by omega])) ?_
    exact QE.done (.inr rfl) rfl ResOk.nil (OImp.os (OS.skip (OS.keep (OS.keep OS.nil)))) ⟨rfl, rfl, trivial⟩

set_option maxRecDepth 20000 in
set_option maxHeartbeats 1000000 in
theorem c_ref06_rats (b : List (List Int)) (hS : Sqd b) : Con Try.prog 217 [(kSl (kSl kZ)).is b] [] (fun p Lo => ∃ (vO : Value) (vs : List Value), p = VP.ex vO ∧ Lo = [OB.row vO 195 kVal vs, OB.fam vs 60 (kPair kC kC) (tabR b.length b.length (qM b))] ∧ vs.length = b.length) := by
  refine Con.enter Try.func217 rfl rfl fun m w => ?_
  refine ST.fact (i := 0) rfl sl_len fun hB => ?_
  refine ST.fact (i := 0) rfl slsl_len fun hlc => ?_
  refine CW.seq ?_
  refine CW.region ?_
  refine WP.s .n (O.asg rfl) ?_
  refine WP.nil ?_
  refine QE.next ?_
  refine CW.seq ?_
  refine CW.region ?_
  refine WP.s .n (O.asg rfl) ?_
  refine WP.nil ?_
  refine QE.next ?_
  refine CW.seq ?_
  refine CW.seq ?_
  refine CW.region ?_
  refine WP.s .n (O.asg rfl) ?_
  refine WP.nil ?_
  refine QE.next ?_
  refine CW.block ?_
  refine ST.nilrow 195 kVal ?_
  refine ST.famnil 60 (kPair kC kC) ?_
  refine CW.loop3 (fun (i : Nat) (v : Value) (us : List Value) => i ≤ b.length ∧ us.length = i) (fun (i : Nat) (v : Value) (us : List Value) => [(0, (kSl (kSl kZ)).is b), (3, VP.ex v), (4, (kInt .i64).is (i : Int))]) (fun (i : Nat) (v : Value) (us : List Value) => [OB.fam us 60 (kPair kC kC) ((tabR b.length b.length (qM b)).take i), OB.row v 195 kVal us]) (fun (i : Nat) (v : Value) (us : List Value) => b.length - i) 0 (.slice none 0 0) [] ⟨Nat.zero_le _, rfl⟩ (Imp.cons rfl (Imp.cons rfl (Imp.consLe rfl (is_eq (y := (0 : Int)) (by first | rfl | omega | assumption)) Imp.nil))) (OImp.os (OS.keepLe (OB.fam_eq (by first | rfl | omega | assumption) (by first | rfl | omega | assumption)) (OS.keep OS.nil))) ?_
  intro i v us ⟨hi, hvs⟩
  refine CW.seq ?_
  refine CW.seq ?_
  refine CW.region ?_
  refine WP.s .n (O.mv rfl) ?_
  refine WP.s .n (O.mv rfl) ?_
  refine WP.s .n (O.lenS rfl Try.underlying67) ?_
  refine WP.s .n (O.lt rfl rfl) ?_
  refine WP.nil ?_
  refine QE.next ?_
  refine CW.condD rfl (fun h_t10 => ?_) (fun h_t10 => ?_)
  · refine CW.skip ?_
    refine QE.next ?_
    refine CW.seq ?_
    refine CW.block ?_
    refine CW.seq ?_
    refine CW.region ?_
    refine WP.s .n (O.asg rfl) ?_
    refine WP.nil ?_
    refine QE.next ?_
    refine CW.seq ?_
    refine CW.seq ?_
    refine CW.region ?_
    refine WP.s .n (O.asg rfl) ?_
    refine WP.nil ?_
    refine QE.next ?_
    refine CW.block ?_
    refine ST.nilrow 60 (kPair kC kC) ?_
    have hn12 := hS.n
    have hqi := hS.q i (by omega)
    refine CW.loop2 (fun (k : Nat) (u : Value) => k ≤ b.length) (fun (k : Nat) (u : Value) => [(0, (kSl (kSl kZ)).is b), (3, VP.ex v), (4, (kInt .i64).is (i : Int)), (5, VP.ex u), (6, (kInt .i64).is (k : Int))]) (fun (k : Nat) (u : Value) => [OB.row u 60 (kPair kC kC) (((tabR b.length b.length (qM b)).getD i []).take k), OB.fam us 60 (kPair kC kC) ((tabR b.length b.length (qM b)).take i), OB.row v 195 kVal us]) (fun (k : Nat) (u : Value) => b.length - k) 0 (.slice none 0 0) (by omega) (Imp.cons rfl (Imp.cons rfl (Imp.cons rfl (Imp.cons rfl (Imp.consLe rfl (is_eq (y := (0 : Int)) (by first | rfl | omega | assumption)) Imp.nil))))) (OImp.os (OS.keepLe (OB.row_eq (by first | rfl | omega | assumption)) (OS.keep (OS.keep OS.nil)))) ?_
    intro k u hk
    refine CW.seq ?_
    refine CW.seq ?_
    refine CW.region ?_
    refine WP.s .n (O.mv rfl) ?_
    refine WP.s .n (O.mv rfl) ?_
    refine WP.s .n (O.mv rfl) ?_
    refine WP.s .n (O.ix i rfl rfl Try.underlying67 ty27 rfl (v := (b.getD i [])) (gd [] (by first | omega | (have := hS.q i (by omega); omega)))) ?_
    refine WP.s .n (O.ldP rfl ty27) ?_
    refine WP.s .n (O.lenS rfl Try.underlying27) ?_
    refine WP.s .n (O.lt rfl rfl) ?_
    refine WP.nil ?_
    refine QE.next ?_
    refine CW.condD rfl (fun h_t19 => ?_) (fun h_t19 => ?_)
    · refine CW.skip ?_
      refine QE.next ?_
      refine CW.seq ?_
      refine CW.block ?_
      refine CW.region ?_
      refine WP.s .n (O.mv rfl) ?_
      refine WP.s .n (O.mv rfl) ?_
      refine WP.s .n (O.mv rfl) ?_
      refine WP.s .n (O.ix i rfl rfl Try.underlying67 ty27 rfl (v := (b.getD i [])) (gd [] (by first | omega | (have := hS.q i (by omega); omega)))) ?_
      refine WP.s .n (O.ldP rfl ty27) ?_
      refine WP.s .n (O.mv rfl) ?_
      refine WP.s .n (O.ix k rfl rfl Try.underlying27 ty31 rfl (v := ((b.getD i []).getD k 0)) (gd 0 (by first | omega | (have := hS.q i (by omega); omega)))) ?_
      refine WP.s .n (O.ldP rfl ty31) ?_
      refine WP.s .n (O.fn fn245 (evs.c rfl evs.nil) (c_ref03_Of ((b.getD i []).getD k 0))) ?_
      refine ST.told 30 rfl (is_eq (y := (rq (matF b i k : Rat))) rfl) ?_
      refine WP.s .n (O.bs Try.underlying195 el60_pr_C_C_ (evl.c rfl evl.n) rfl (by decide)) ?_
      refine WP.ap 0 .n rfl rfl rfl (VP.le_refl _) Try.underlying195 el60_pr_C_C_ (by first | omega | (simp only [List.length_cons, List.length_nil, List.length_take]; omega)) fun v1 => ?_
      refine WP.s .n (O.asg rfl) ?_
      refine WP.nil ?_
      refine QE.blkN ?_
      refine QE.next ?_
      refine CW.region ?_
      refine WP.s .n (O.mv rfl) ?_
      refine WP.s .n (O.add rfl rfl (c := ((k : Int) + 1)) (w64 (by omega))) ?_
      refine WP.s .n (O.asg rfl) ?_
      refine WP.nil ?_
      refine ST.obtold 0 rfl (OB.row_eq (ys := (((tabR b.length b.length (qM b)).getD i []).take (k + 1))) (take_app2 (tabR_at (by omega) (by omega)))) ?_
      exact QE.round2 (k + 1) v1 (by omega) (by omega) (Imp.cons rfl (Imp.cons rfl (Imp.cons rfl (Imp.cons rfl (Imp.consLe rfl (is_eq (y := (((k + 1) : Nat) : Int)) (by first | rfl | omega | assumption)) Imp.nil))))) (OImp.refl _)
    · refine CW.exit ?_
      refine QE.thenE ?_
      refine QE.thenE ?_
      refine QE.blkH ?_
      refine QE.next ?_
      refine CW.region ?_
      refine WP.s .n (O.mv rfl) ?_
      refine WP.s .n (O.mv rfl) ?_
      refine ST.rowcell 0 rfl fun hcell_ => ?_
      refine WP.s .n (O.bs Try.underlying194 el195_val (evl.l rfl (ex_val (by first | rfl | assumption)) evl.n) rfl (by decide)) ?_
      refine WP.ap 2 .n rfl rfl rfl (VP.le_refl _) Try.underlying194 el195_val (by first | omega | (simp only [List.length_cons, List.length_nil, List.length_take]; omega)) fun v2 => ?_
      refine WP.s .n (O.asg rfl) ?_
      refine WP.nil ?_
      refine QE.blkN ?_
      refine QE.next ?_
      refine CW.region ?_
      refine WP.s .n (O.mv rfl) ?_
      refine WP.s .n (O.add rfl rfl (c := ((i : Int) + 1)) (w64 (by omega))) ?_
      refine WP.s .n (O.asg rfl) ?_
      refine WP.nil ?_
      refine ST.obtold 0 rfl (OB.row_eq (ys := ((tabR b.length b.length (qM b)).getD i [])) (List.take_of_length_le (by rw [tabR_rlen (by omega)]; omega))) ?_
      refine ST.oimp (fam_push 0 rfl) ?_
      refine ST.obtold 0 rfl (OB.fam_eq rfl (yss := ((tabR b.length b.length (qM b)).take (i + 1))) (take_app (by rw [tabR_len]; omega))) ?_
      exact QE.round3 (i + 1) v2 (us ++ [u]) (by omega) ⟨by omega, by simp [hvs]⟩ (Imp.cons rfl (Imp.cons rfl (Imp.consLe rfl (is_eq (y := (((i + 1) : Nat) : Int)) (by first | rfl | omega | assumption)) Imp.nil))) (OImp.refl _)
  · refine CW.exit ?_
    refine QE.thenE ?_
    refine QE.thenE ?_
    refine QE.blkH ?_
    refine QE.next ?_
    refine CW.seq ?_
    refine CW.region ?_
    refine WP.s .n (O.mv rfl) ?_
    refine WP.s .n (O.asg rfl) ?_
    refine WP.nil ?_
    refine QE.next ?_
    refine CW.ret ?_
    have hvl : us.length = b.length := by omega
    refine ST.obtold 0 rfl (OB.fam_eq rfl (yss := (tabR b.length b.length (qM b))) (List.take_of_length_le (by rw [tabR_len]; omega))) ?_
    refine ST.oimp (OImp.ix [1, 0] (by decide) rfl) ?_
    exact QE.done (.inl rfl) rfl (ResOk.t rfl ResOk.nil) (OImp.refl _) ⟨v, us, rfl, rfl, hvl⟩

set_option maxRecDepth 20000 in
set_option maxHeartbeats 4000000 in
theorem c_ref06_reduced (b : List (List Int)) (n : Nat) (hbn : b.length = n) (hS : Sqd b) (vO : Value) (vs0 : List Value) (hv0 : vs0.length = n) : Con Try.prog 216 [VP.ex vO, (kInt .i64).is (n : Int)] [OB.row vO 195 kVal vs0, OB.fam vs0 60 (kPair kC kC) (tabR n n (qM b))] (fun p Lo => ∃ (d : Rat) (top : Nat) (f : Fq), p = VP.tup [VP.tt, VP.tt, (kPair kC kC).is (rq d)] ∧ Lo = [] ∧ RedI (matF b) n 256 n top f d) := by
  refine Con.enter Try.func216 rfl rfl fun m w => ?_
  have hn12 := hS.n
  have hn0 := hS.n0
  have hsz : ∀ c, c < n → 4 * szE 256 c + 1 ≤ 4317512248 := fun c hc => szE_last (by omega) (by decide)
  refine CW.seq ?_
  refine CW.region ?_
  refine WP.s .n (O.asg rfl) ?_
  refine WP.s .n (O.asg rfl) ?_
  refine WP.al .n z60_pr_C_C_ fun b1 => ?_
  refine WP.nil ?_
  refine QE.next ?_
  refine CW.seq ?_
  refine CW.region ?_
  refine WP.s .n (O.fn fn78 (evs.l rfl (i64_int (by omega)) evs.nil) (c_ref02_Of 1)) ?_
  refine WP.s .n (O.fn fn245 (evs.l rfl (kC_Z (by exact Sm_lit (by decide))) evs.nil) (c_ref03_Of 1)) ?_
  refine WP.al .n z60_pr_C_C_ fun b2 => ?_
  refine WP.t .n (O.stW (l := (kPair kC kC)) (u := rq (1 : Rat)) 0 rfl rfl rfl ty60 rfl (VP.le_refl _)) ?_
  refine WP.nil ?_
  refine QE.next ?_
  refine CW.seq ?_
  refine CW.region ?_
  refine WP.s .n (O.asg rfl) ?_
  refine WP.nil ?_
  refine QE.next ?_
  refine CW.seq ?_
  refine CW.region ?_
  refine WP.s .n (O.asg rfl) ?_
  refine WP.nil ?_
  refine QE.next ?_
  refine CW.seq ?_
  refine CW.seq ?_
  refine CW.region ?_
  refine WP.s .n (O.asg rfl) ?_
  refine WP.nil ?_
  refine QE.next ?_
  refine CW.block ?_
  refine ST.nilrow 3 kI64 ?_
  refine ST.obtold 1 rfl (OB.box_eq (y := (rq 1)) rfl) ?_
  refine CW.loop7 (fun (c : Nat) (top : Nat) (f : Fq) (d : Rat) (vs : List Value) (vh : Value) (hs : List Int) => RedI (matF b) n 256 c top f d ∧ vs.length = n ∧ hs.length ≤ c) (fun (c : Nat) (top : Nat) (f : Fq) (d : Rat) (vs : List Value) (vh : Value) (hs : List Int) => [(0, VP.ex vO), (1, (kInt .i64).is (n : Int)), (6, VP.ex (.pointer (some ⟨b1, 0, none⟩))), (7, VP.ex (.pointer (some ⟨b2, 0, none⟩))), (8, VP.ex vh), (9, (kInt .i64).is (top : Int)), (10, (kInt .i64).is (c : Int))]) (fun (c : Nat) (top : Nat) (f : Fq) (d : Rat) (vs : List Value) (vh : Value) (hs : List Int) => [OB.row vh 3 kI64 hs, OB.box b2 60 (kPair kC kC) (rq d), OB.box b1 60 (kPair kC kC) (0, 0), OB.row vO 195 kVal vs, OB.fam vs 60 (kPair kC kC) (tabR n n f)]) (fun (c : Nat) (top : Nat) (f : Fq) (d : Rat) (vs : List Value) (vh : Value) (hs : List Int) => n - c) 0 0 (qM b) 1 vs0 (.slice none 0 0) [] ⟨red_0 (fun i j => hS.z i j) (by decide), hv0, Nat.le_refl _⟩ (Imp.cons rfl (Imp.cons rfl (Imp.cons rfl (Imp.cons rfl (Imp.cons rfl (Imp.consLe rfl (is_eq (y := (0 : Int)) (by first | rfl | omega | assumption)) (Imp.consLe rfl (is_eq (y := (0 : Int)) (by first | rfl | omega | assumption)) Imp.nil))))))) (OImp.refl _) ?_
  intro c top f d vs vh hs ⟨hR, hvs, hhs⟩
  have htc := hR.tc
  have hcn := hR.cn
  refine CW.seq ?_
  refine CW.seq ?_
  refine CW.region ?_
  refine WP.s .n (O.mv rfl) ?_
  refine WP.s .n (O.mv rfl) ?_
  refine WP.s .n (O.lt rfl rfl) ?_
  refine WP.nil ?_
  refine QE.next ?_
  refine CW.condD rfl (fun h_t19 => ?_) (fun h_t19 => ?_)
  · refine CW.skip ?_
    refine QE.next ?_
    refine CW.seq ?_
    refine CW.block ?_
    refine CW.seq ?_
    refine CW.region ?_
    refine WP.s .n (O.mv rfl) ?_
    refine WP.s .n (O.asg rfl) ?_
    refine WP.nil ?_
    refine QE.next ?_
    refine CW.seq ?_
    refine CW.block ?_
    refine CW.loop (fun (p : Nat) => top ≤ p ∧ p ≤ n ∧ ∀ q, top ≤ q → q < p → f q c = 0) (fun (p : Nat) => [(0, VP.ex vO), (1, (kInt .i64).is (n : Int)), (6, VP.ex (.pointer (some ⟨b1, 0, none⟩))), (7, VP.ex (.pointer (some ⟨b2, 0, none⟩))), (8, VP.ex vh), (9, (kInt .i64).is (top : Int)), (10, (kInt .i64).is (c : Int)), (11, (kInt .i64).is (p : Int))]) (fun (p : Nat) => [OB.row vh 3 kI64 hs, OB.box b2 60 (kPair kC kC) (rq d), OB.box b1 60 (kPair kC kC) (0, 0), OB.row vO 195 kVal vs, OB.fam vs 60 (kPair kC kC) (tabR n n f)]) (fun (p : Nat) => n - p) top ⟨Nat.le_refl _, by omega, fun q h1 h2 => absurd h2 (by omega)⟩ (Imp.cons rfl (Imp.cons rfl (Imp.cons rfl (Imp.cons rfl (Imp.cons rfl (Imp.cons rfl (Imp.cons rfl (Imp.cons rfl Imp.nil)))))))) (OImp.refl _) ?_
    intro p ⟨hp, hpn, h0⟩
    refine CW.seq ?_
    refine CW.seq ?_
    refine CW.region ?_
    refine WP.s .n (O.mv rfl) ?_
    refine WP.s .n (O.mv rfl) ?_
    refine WP.s .n (O.lenR rfl (mem_at 3 rfl) Try.underlying194) ?_
    refine WP.s .n (O.lt rfl rfl) ?_
    refine WP.s .n (O.mv rfl) ?_
    refine WP.splitD 27 rfl (fun h_t27 => ?_) (fun h_t27 => ?_)
    · refine WP.s (.g rfl rfl) (O.mv rfl) ?_
      refine WP.s (.g rfl rfl) (O.mv rfl) ?_
      refine WP.s (.g rfl rfl) (O.ixR (k := kVal) (xs := vs) (n := (p : Int)) p rfl rfl (mem_at 3 rfl) Try.underlying194 ty195 rfl (by first | omega | (rw [tabR_rlen (by omega)]; omega) | (rw [List.length_set]; omega))) ?_
      refine WP.s (.g rfl rfl) (OpOk.le (O.ldR p rfl (mem_at 3 rfl) (Lens.id _) rfl (y := (vs.getD p nilV)) (gd nilV (by first | omega | (rw [tabR_rlen (by omega)]; omega) | (rw [List.length_set]; omega))) ty195 rfl) (val_ex _)) ?_
      refine WP.s (.g rfl rfl) (O.mv rfl) ?_
      refine WP.s (.g rfl rfl) (O.ixF (e := 60) (k := (kPair kC kC)) (xss := (tabR n n f)) (n := (c : Int)) p c rfl rfl (mem_at 4 rfl) rfl (by first | omega | (rw [tabR_rlen (by omega)]; omega) | (rw [List.length_set]; omega)) Try.underlying195 ty60 rfl (by first | omega | (rw [tabR_rlen (by omega)]; omega) | (rw [List.length_set]; omega))) ?_
      refine WP.s (.g rfl rfl) (O.ldF (k := (kPair kC kC)) (xss := (tabR n n f)) p c rfl (mem_at 4 rfl) rfl (by first | omega | (rw [tabR_rlen (by omega)]; omega) | (rw [List.length_set]; omega)) (Lens.id _) rfl (y := (rq (f p c))) (tabR_at (by omega) (by omega)) ty60 rfl) ?_
      refine WP.s (.g rfl rfl) (O.fn fn246 (evs.c rfl evs.nil) (c_ref06_zero (szE 256 c) (f p c) (hR.z p c) (by have := hsz c (by omega); omega))) ?_
      refine WP.s .n (O.pickT rfl rfl) ?_
      refine WP.nil ?_
      refine QE.next ?_
      refine CW.condD rfl (fun h_t36 => ?_) (fun h_t36 => ?_)
      · refine CW.skip ?_
        refine QE.next ?_
        refine CW.block ?_
        refine CW.region ?_
        refine WP.s .n (O.mv rfl) ?_
        refine WP.s .n (O.add rfl rfl (c := ((p : Int) + 1)) (w64 (by omega))) ?_
        refine WP.s .n (O.asg rfl) ?_
        refine WP.nil ?_
        refine QE.blkN ?_
        exact QE.round (p + 1) (by omega) ⟨by omega, by omega, fun q h1 h2 => if e : q = p then by rw [e]; exact h_t36 else h0 q h1 (by omega)⟩ (Imp.cons rfl (Imp.cons rfl (Imp.cons rfl (Imp.cons rfl (Imp.cons rfl (Imp.cons rfl (Imp.cons rfl (Imp.consLe rfl (is_eq (y := (((p + 1) : Nat) : Int)) (by first | rfl | omega | assumption)) Imp.nil)))))))) (OImp.refl _)
      · refine CW.exit ?_
        refine QE.thenE ?_
        refine QE.thenE ?_
        refine QE.blkH ?_
        refine QE.next ?_
        refine CW.seq ?_
        refine CW.seq ?_
        refine CW.region ?_
        refine WP.s .n (O.mv rfl) ?_
        refine WP.s .n (O.mv rfl) ?_
        refine WP.s .n (O.lenR rfl (mem_at 3 rfl) Try.underlying194) ?_
        refine WP.s .n (O.eq rfl rfl) ?_
        refine WP.nil ?_
        refine QE.next ?_
        refine CW.condD rfl (fun h => absurd h (by omega)) (fun h_t42 => ?_)
        refine CW.skip ?_
        refine QE.next ?_
        refine CW.cut (fun (us : List Value) => us.length = n) (fun (us : List Value) => [(0, VP.ex vO), (1, (kInt .i64).is (n : Int)), (6, VP.ex (.pointer (some ⟨b1, 0, none⟩))), (7, VP.ex (.pointer (some ⟨b2, 0, none⟩))), (8, VP.ex vh), (9, (kInt .i64).is (top : Int)), (10, (kInt .i64).is (c : Int)), (11, (kInt .i64).is (p : Int))]) (fun (us : List Value) => [OB.row vh 3 kI64 hs, OB.box b2 60 (kPair kC kC) (rq (sgD d p top)), OB.box b1 60 (kPair kC kC) (0, 0), OB.row vO 195 kVal us, OB.fam us 60 (kPair kC kC) (tabR n n (swapF f p top))]) ?_ ?_
        · refine CW.seq ?_
          refine CW.region ?_
          refine WP.s .n (O.mv rfl) ?_
          refine WP.s .n (O.mv rfl) ?_
          refine WP.s .n (O.ne rfl rfl) ?_
          refine WP.nil ?_
          refine QE.next ?_
          refine CW.condD rfl (fun h_t47 => ?_) (fun h_t47 => ?_)
          · refine CW.seq ?_
            refine CW.draw (Γ := [.fr (VP.ex vO), .fr ((kInt .i64).is (p : Int)), .lt (VP.ex vO), .lt ((kInt .i64).is (top : Int)), .fr (VP.ex vO), .fr ((kInt .i64).is (top : Int)), .fr (VP.pel vO (top * 1)), .fr (VP.ex (vs.getD top nilV)), .fr (VP.ex vO), .fr ((kInt .i64).is (p : Int)), .fr (VP.pel vO (p * 1)), .fr (VP.ex (vs.getD p nilV))]) (lates := [false, false, true, true, false, false, false, false, false, false, false, false]) (by kernel_rfl) (Chk.of rfl (by kernel_rfl) rfl) (fun _ _ _ _ _ h => h) (fun q_ x_ h_ => ?_) (fun σ1 => ?_)
            · match q_, h_ with
              | 0, h_ => cases h_; exact Ob.f rfl .n fun N => (O.mv rfl)
              | 1, h_ => cases h_; exact Ob.f rfl .n fun N => (O.mv rfl)
              | 2, h_ => cases h_; exact Ob.l rfl .n (OV.mv rfl)
              | 3, h_ => cases h_; exact Ob.l rfl .n (OV.mv rfl)
              | 4, h_ => cases h_; exact Ob.f rfl .n fun N => (O.mv rfl)
              | 5, h_ => cases h_; exact Ob.f rfl .n fun N => (O.mv rfl)
              | 6, h_ => cases h_; exact Ob.f rfl .n fun N => (O.ixR (k := kVal) (xs := vs) (n := (top : Int)) top rfl rfl (mem_app N (mem_at 3 rfl)) Try.underlying194 ty195 rfl (by first | omega | (rw [tabR_rlen (by omega)]; omega) | (rw [List.length_set]; omega)))
              | 7, h_ => cases h_; exact Ob.f rfl .n fun N => (OpOk.le (O.ldR top rfl (mem_app N (mem_at 3 rfl)) (Lens.id _) rfl (y := (vs.getD top nilV)) (gd nilV (by first | omega | (rw [tabR_rlen (by omega)]; omega) | (rw [List.length_set]; omega))) ty195 rfl) (val_ex _))
              | 8, h_ => cases h_; exact Ob.f rfl .n fun N => (O.mv rfl)
              | 9, h_ => cases h_; exact Ob.f rfl .n fun N => (O.mv rfl)
              | 10, h_ => cases h_; exact Ob.f rfl .n fun N => (O.ixR (k := kVal) (xs := vs) (n := (p : Int)) p rfl rfl (mem_app N (mem_at 3 rfl)) Try.underlying194 ty195 rfl (by first | omega | (rw [tabR_rlen (by omega)]; omega) | (rw [List.length_set]; omega)))
              | 11, h_ => cases h_; exact Ob.f rfl .n fun N => (OpOk.le (O.ldR p rfl (mem_app N (mem_at 3 rfl)) (Lens.id _) rfl (y := (vs.getD p nilV)) (gd nilV (by first | omega | (rw [tabR_rlen (by omega)]; omega) | (rw [List.length_set]; omega))) ty195 rfl) (val_ex _))
              | n_ + 12, h_ => simp at h_
            refine WP.s .n (O.ixR (k := kVal) (xs := vs) (n := (p : Int)) p rfl rfl (mem_at 3 rfl) Try.underlying194 ty195 rfl (by first | omega | (rw [tabR_rlen (by omega)]; omega) | (rw [List.length_set]; omega))) ?_
            refine ST.famcell 4 top rfl (by first | omega | (rw [tabR_rlen (by omega)]; omega) | (rw [List.length_set]; omega)) fun hcell_ => ?_
            refine WP.t .n (O.stR 3 p rfl rfl (Lens.id _) rfl (y0 := (vs.getD p nilV)) (gd nilV (by first | omega | (rw [tabR_rlen (by omega)]; omega) | (rw [List.length_set]; omega))) ty195 rfl (ex_val (by first | rfl | assumption))) ?_
            refine WP.s .n (O.ixR (k := kVal) (xs := (vs.set p (vs.getD top nilV))) (n := (top : Int)) top rfl rfl (mem_at 3 rfl) Try.underlying194 ty195 rfl (by first | omega | (rw [tabR_rlen (by omega)]; omega) | (rw [List.length_set]; omega))) ?_
            refine ST.famcell 4 p rfl (by first | omega | (rw [tabR_rlen (by omega)]; omega) | (rw [List.length_set]; omega)) fun hcell_ => ?_
            refine WP.t .n (O.stR 3 top rfl rfl (Lens.id _) rfl (y0 := ((vs.set p (vs.getD top nilV)).getD top nilV)) (gd nilV (by first | omega | (rw [tabR_rlen (by omega)]; omega) | (rw [List.length_set]; omega))) ty195 rfl (ex_val (by first | rfl | assumption))) ?_
            refine WP.nil ?_
            refine QE.next ?_
            refine ST.oimp (fam_swap 4 p top rfl (by first | omega | (rw [tabR_rlen (by omega)]; omega) | (rw [List.length_set]; omega)) (by first | omega | (rw [tabR_rlen (by omega)]; omega) | (rw [List.length_set]; omega)) (by omega)) ?_
            refine ST.obtold 4 rfl (OB.fam_eq rfl (yss := (tabR n n (swapF f p top))) (tabR_swap (by omega) (by omega) (by omega))) ?_
            refine CW.region ?_
            refine WP.s .n (O.ld rfl (mem_at 1 rfl) (Lens.id _) ty60 rfl) ?_
            refine WP.s .n (O.fn fn247 (evs.c rfl evs.nil) (c_ref03_Neg (szE 256 c + 1) d hR.zd (by have := hsz c (by omega); omega))) ?_
            refine WP.t .n (O.stW (l := (kPair kC kC)) (u := rq (-d)) 1 rfl rfl rfl ty60 rfl (VP.le_refl _)) ?_
            refine WP.nil ?_
            refine ST.obtold 1 rfl (OB.box_eq (y := (rq (sgD d p top))) (by unfold sgD; rw [if_neg (by omega)])) ?_
            exact QE.mid ((vs.set p (vs.getD top nilV)).set top (vs.getD p nilV)) (by simp [hvs]) (Imp.cons rfl (Imp.cons rfl (Imp.cons rfl (Imp.cons rfl (Imp.cons rfl (Imp.cons rfl (Imp.cons rfl (Imp.cons rfl Imp.nil)))))))) (OImp.refl _)
          · refine CW.skip ?_
            refine ST.obtold 1 rfl (OB.box_eq (y := (rq (sgD d p top))) (by unfold sgD; rw [if_pos (by omega)])) ?_
            refine ST.obtold 4 rfl (OB.fam_eq rfl (yss := (tabR n n (swapF f p top))) (by rw [show p = top by omega, swapF_self])) ?_
            exact QE.mid vs (by simp [hvs]) (Imp.cons rfl (Imp.cons rfl (Imp.cons rfl (Imp.cons rfl (Imp.cons rfl (Imp.cons rfl (Imp.cons rfl (Imp.cons rfl Imp.nil)))))))) (OImp.refl _)
        intro us hus
        have hne : f p c ≠ 0 := h_t36
        have hsg : RZ (szE 256 c + 1) (sgD d p top) := by unfold sgD; split; exact hR.zd; exact hR.zd.neg
        refine CW.seq ?_
        refine CW.region ?_
        refine WP.s .n (O.mv rfl) ?_
        refine WP.s .n (O.mv rfl) ?_
        refine WP.s .n (O.ixR (k := kVal) (xs := us) (n := (top : Int)) top rfl rfl (mem_at 3 rfl) Try.underlying194 ty195 rfl (by first | omega | (rw [tabR_rlen (by omega)]; omega) | (rw [List.length_set]; omega))) ?_
        refine WP.s .n (OpOk.le (O.ldR top rfl (mem_at 3 rfl) (Lens.id _) rfl (y := (us.getD top nilV)) (gd nilV (by first | omega | (rw [tabR_rlen (by omega)]; omega) | (rw [List.length_set]; omega))) ty195 rfl) (val_ex _)) ?_
        refine WP.s .n (O.mv rfl) ?_
        refine WP.s .n (O.ixF (e := 60) (k := (kPair kC kC)) (xss := (tabR n n (swapF f p top))) (n := (c : Int)) top c rfl rfl (mem_at 4 rfl) rfl (by first | omega | (rw [tabR_rlen (by omega)]; omega) | (rw [List.length_set]; omega)) Try.underlying195 ty60 rfl (by first | omega | (rw [tabR_rlen (by omega)]; omega) | (rw [List.length_set]; omega))) ?_
        refine WP.s .n (O.ldF (k := (kPair kC kC)) (xss := (tabR n n (swapF f p top))) top c rfl (mem_at 4 rfl) rfl (by first | omega | (rw [tabR_rlen (by omega)]; omega) | (rw [List.length_set]; omega)) (Lens.id _) rfl (y := (rq (f p c))) (tabR_at2 (f p c) (by omega) (by omega) swapF_top) ty60 rfl) ?_
        refine WP.al .n z60_pr_C_C_ fun b3 => ?_
        refine WP.t .n (O.stW (l := (kPair kC kC)) (u := (rq (f p c))) 0 rfl rfl rfl ty60 rfl (VP.le_refl _)) ?_
        refine WP.nil ?_
        refine QE.next ?_
        refine CW.seq ?_
        refine CW.region ?_
        refine WP.s .n (O.ld rfl (mem_at 2 rfl) (Lens.id _) ty60 rfl) ?_
        refine WP.s .n (O.ld rfl (mem_at 0 rfl) (Lens.id _) ty60 rfl) ?_
        refine WP.s .n (O.fn fn248 (evs.c rfl (evs.c rfl evs.nil)) (c_ref03_Mul (szE 256 c + 1) (sgD d p top) (f p c) hsg ((hR.z p c).up (by omega)) (by have := hsz c (by omega); omega))) ?_
        refine WP.t .n (O.stW (l := (kPair kC kC)) (u := rq ((sgD d p top) * (f p c))) 2 rfl rfl rfl ty60 rfl (VP.le_refl _)) ?_
        refine WP.nil ?_
        refine QE.next ?_
        refine CW.seq ?_
        refine CW.seq ?_
        refine CW.region ?_
        refine WP.s .n (O.asg rfl) ?_
        refine WP.nil ?_
        refine QE.next ?_
        refine CW.block ?_
        refine ST.obtold 5 rfl (OB.fam_eq rfl (yss := (tabR n n (divF (swapF f p top) top (f p c) 0))) (by rw [divF_0])) ?_
        refine CW.loop (fun (k : Nat) => k ≤ n) (fun (k : Nat) => [(0, VP.ex vO), (1, (kInt .i64).is (n : Int)), (6, VP.ex (.pointer (some ⟨b1, 0, none⟩))), (7, VP.ex (.pointer (some ⟨b2, 0, none⟩))), (8, VP.ex vh), (9, (kInt .i64).is (top : Int)), (10, (kInt .i64).is (c : Int)), (12, VP.ex (.pointer (some ⟨b3, 0, none⟩))), (13, (kInt .i64).is (k : Int))]) (fun (k : Nat) => [OB.box b3 60 (kPair kC kC) (rq (f p c)), OB.row vh 3 kI64 hs, OB.box b2 60 (kPair kC kC) (rq (sgD d p top * f p c)), OB.box b1 60 (kPair kC kC) (0, 0), OB.row vO 195 kVal us, OB.fam us 60 (kPair kC kC) (tabR n n (divF (swapF f p top) top (f p c) k))]) (fun (k : Nat) => n - k) 0 (by omega) (Imp.cons rfl (Imp.cons rfl (Imp.cons rfl (Imp.cons rfl (Imp.cons rfl (Imp.cons rfl (Imp.cons rfl (Imp.cons rfl (Imp.consLe rfl (is_eq (y := (0 : Int)) (by first | rfl | omega | assumption)) Imp.nil))))))))) (OImp.os (OS.keep (OS.keep (OS.keepLe (OB.box_eq (by first | rfl | omega | assumption)) (OS.keep (OS.keep (OS.keep OS.nil))))))) ?_
        intro k hk
        refine CW.seq ?_
        refine CW.seq ?_
        refine CW.region ?_
        refine WP.s .n (O.mv rfl) ?_
        refine WP.s .n (O.mv rfl) ?_
        refine WP.s .n (O.lt rfl rfl) ?_
        refine WP.nil ?_
        refine QE.next ?_
        refine CW.condD rfl (fun h_t76 => ?_) (fun h_t76 => ?_)
        · refine CW.skip ?_
          refine QE.next ?_
          refine CW.seq ?_
          refine CW.block ?_
          refine CW.draw (Γ := [.fr (VP.ex vO), .fr ((kInt .i64).is (top : Int)), .fr (VP.pel vO (top * 1)), .fr (VP.ex (us.getD top nilV)), .fr ((kInt .i64).is (k : Int)), .fr (VP.ex vO), .fr ((kInt .i64).is (top : Int)), .fr (VP.pel vO (top * 1)), .fr (VP.ex (us.getD top nilV)), .fr ((kInt .i64).is (k : Int)), .fr (VP.pel (us.getD top nilV) (k * 4)), .fr ((kPair kC kC).is (rq (swapF f p top top k))), .fr ((kPair kC kC).is (rq (f p c))), .fr ((kPair kC kC).is (rq ((swapF f p top top k) / (f p c)))), .fr (VP.pel (us.getD top nilV) (k * 4))]) (lates := [false, false, false, false, false, false, false, false, false, false, false, false, false, false, false]) (by kernel_rfl) (Chk.of rfl (by kernel_rfl) rfl) (fun _ _ _ _ _ h => h) (fun q_ x_ h_ => ?_) (fun σ2 => ?_)
          · match q_, h_ with
            | 0, h_ => cases h_; exact Ob.f rfl .n fun N => (O.mv rfl)
            | 1, h_ => cases h_; exact Ob.f rfl .n fun N => (O.mv rfl)
            | 2, h_ => cases h_; exact Ob.f rfl .n fun N => (O.ixR (k := kVal) (xs := us) (n := (top : Int)) top rfl rfl (mem_app N (mem_at 4 rfl)) Try.underlying194 ty195 rfl (by first | omega | (rw [tabR_rlen (by omega)]; omega) | (rw [List.length_set]; omega)))
            | 3, h_ => cases h_; exact Ob.f rfl .n fun N => (OpOk.le (O.ldR top rfl (mem_app N (mem_at 4 rfl)) (Lens.id _) rfl (y := (us.getD top nilV)) (gd nilV (by first | omega | (rw [tabR_rlen (by omega)]; omega) | (rw [List.length_set]; omega))) ty195 rfl) (val_ex _))
            | 4, h_ => cases h_; exact Ob.f rfl .n fun N => (O.mv rfl)
            | 5, h_ => cases h_; exact Ob.f rfl .n fun N => (O.mv rfl)
            | 6, h_ => cases h_; exact Ob.f rfl .n fun N => (O.mv rfl)
            | 7, h_ => cases h_; exact Ob.f rfl .n fun N => (O.ixR (k := kVal) (xs := us) (n := (top : Int)) top rfl rfl (mem_app N (mem_at 4 rfl)) Try.underlying194 ty195 rfl (by first | omega | (rw [tabR_rlen (by omega)]; omega) | (rw [List.length_set]; omega)))
            | 8, h_ => cases h_; exact Ob.f rfl .n fun N => (OpOk.le (O.ldR top rfl (mem_app N (mem_at 4 rfl)) (Lens.id _) rfl (y := (us.getD top nilV)) (gd nilV (by first | omega | (rw [tabR_rlen (by omega)]; omega) | (rw [List.length_set]; omega))) ty195 rfl) (val_ex _))
            | 9, h_ => cases h_; exact Ob.f rfl .n fun N => (O.mv rfl)
            | 10, h_ => cases h_; exact Ob.f rfl .n fun N => (O.ixF (e := 60) (k := (kPair kC kC)) (xss := (tabR n n (divF (swapF f p top) top (f p c) k))) (n := (k : Int)) top k rfl rfl (mem_app N (mem_at 5 rfl)) rfl (by first | omega | (rw [tabR_rlen (by omega)]; omega) | (rw [List.length_set]; omega)) Try.underlying195 ty60 rfl (by first | omega | (rw [tabR_rlen (by omega)]; omega) | (rw [List.length_set]; omega)))
            | 11, h_ => cases h_; exact Ob.f rfl .n fun N => (O.ldF (k := (kPair kC kC)) (xss := (tabR n n (divF (swapF f p top) top (f p c) k))) top k rfl (mem_app N (mem_at 5 rfl)) rfl (by first | omega | (rw [tabR_rlen (by omega)]; omega) | (rw [List.length_set]; omega)) (Lens.id _) rfl (y := (rq (swapF f p top top k))) (tabR_at2 (swapF f p top top k) (by omega) (by omega) divF_at) ty60 rfl)
            | 12, h_ => cases h_; exact Ob.f rfl .n fun N => (O.ld rfl (mem_app N (mem_at 0 rfl)) (Lens.id _) ty60 rfl)
            | 13, h_ => cases h_; exact Ob.f rfl .n fun N => (O.fn fn249 (evs.c rfl (evs.c rfl evs.nil)) (c_ref03_Div (szE 256 c) (swapF f p top top k) (f p c) (swapF_RZ hR.z p top top k) (hR.z p c) (by have := hsz c (by omega); omega) hne))
            | 14, h_ => cases h_; exact Ob.f rfl .n fun N => (O.ixF (e := 60) (k := (kPair kC kC)) (xss := (tabR n n (divF (swapF f p top) top (f p c) k))) (n := (k : Int)) top k rfl rfl (mem_app N (mem_at 5 rfl)) rfl (by first | omega | (rw [tabR_rlen (by omega)]; omega) | (rw [List.length_set]; omega)) Try.underlying195 ty60 rfl (by first | omega | (rw [tabR_rlen (by omega)]; omega) | (rw [List.length_set]; omega)))
            | n_ + 15, h_ => simp at h_
          refine WP.t .n (O.stF 5 top k rfl rfl rfl (by first | omega | (rw [tabR_rlen (by omega)]; omega) | (rw [List.length_set]; omega)) (Lens.id _) rfl (y0 := (((tabR n n (divF (swapF f p top) top (f p c) k)).getD top []).getD k (0, 0))) (gd (0, 0) (by first | omega | (rw [tabR_rlen (by omega)]; omega) | (rw [List.length_set]; omega))) ty60 rfl (VP.le_refl _)) ?_
          refine WP.nil ?_
          refine QE.blkN ?_
          refine QE.next ?_
          refine CW.region ?_
          refine WP.s .n (O.mv rfl) ?_
          refine WP.s .n (O.add rfl rfl (c := ((k : Int) + 1)) (w64 (by omega))) ?_
          refine WP.s .n (O.asg rfl) ?_
          refine WP.nil ?_
          refine ST.obtold 5 rfl (OB.fam_eq rfl (yss := (tabR n n (divF (swapF f p top) top (f p c) (k + 1)))) (by rw [tabR_set (swapF f p top top k / f p c) (by omega) (by omega), divF_upd])) ?_
          exact QE.round (k + 1) (by omega) (by omega) (Imp.cons rfl (Imp.cons rfl (Imp.cons rfl (Imp.cons rfl (Imp.cons rfl (Imp.cons rfl (Imp.cons rfl (Imp.cons rfl (Imp.consLe rfl (is_eq (y := (((k + 1) : Nat) : Int)) (by first | rfl | omega | assumption)) Imp.nil))))))))) (OImp.refl _)
        · refine CW.exit ?_
          refine QE.thenE ?_
          refine QE.thenE ?_
          refine QE.blkH ?_
          refine QE.next ?_
          refine CW.seq ?_
          refine CW.seq ?_
          refine CW.region ?_
          refine WP.s .n (O.asg rfl) ?_
          refine WP.nil ?_
          refine QE.next ?_
          refine CW.block ?_
          refine ST.obtold 5 rfl (OB.fam_eq rfl (yss := (tabR n n (elimF (dvF f p top c) top c 0))) (by rw [elimF_0, show k = n by omega]; exact tabR_div)) ?_
          refine CW.loop (fun (i : Nat) => i ≤ n) (fun (i : Nat) => [(0, VP.ex vO), (1, (kInt .i64).is (n : Int)), (6, VP.ex (.pointer (some ⟨b1, 0, none⟩))), (7, VP.ex (.pointer (some ⟨b2, 0, none⟩))), (8, VP.ex vh), (9, (kInt .i64).is (top : Int)), (10, (kInt .i64).is (c : Int)), (14, (kInt .i64).is (i : Int))]) (fun (i : Nat) => [OB.row vh 3 kI64 hs, OB.box b2 60 (kPair kC kC) (rq (sgD d p top * f p c)), OB.box b1 60 (kPair kC kC) (0, 0), OB.row vO 195 kVal us, OB.fam us 60 (kPair kC kC) (tabR n n (elimF (dvF f p top c) top c i))]) (fun (i : Nat) => n - i) 0 (by omega) (Imp.cons rfl (Imp.cons rfl (Imp.cons rfl (Imp.cons rfl (Imp.cons rfl (Imp.cons rfl (Imp.cons rfl (Imp.consLe rfl (is_eq (y := (0 : Int)) (by first | rfl | omega | assumption)) Imp.nil)))))))) (OImp.os (OS.skip (OS.keep (OS.keep (OS.keep (OS.keep (OS.keep OS.nil))))))) ?_
          intro i hi
          refine CW.seq ?_
          refine CW.seq ?_
          refine CW.region ?_
          refine WP.s .n (O.mv rfl) ?_
          refine WP.s .n (O.mv rfl) ?_
          refine WP.s .n (O.lenR rfl (mem_at 3 rfl) Try.underlying194) ?_
          refine WP.s .n (O.lt rfl rfl) ?_
          refine WP.nil ?_
          refine QE.next ?_
          refine CW.condD rfl (fun h_t97 => ?_) (fun h_t97 => ?_)
          · refine CW.skip ?_
            refine QE.next ?_
            refine CW.seq ?_
            refine CW.block ?_
            refine CW.seq ?_
            refine CW.region ?_
            refine WP.s .n (O.mv rfl) ?_
            refine WP.s .n (O.mv rfl) ?_
            refine WP.s .n (O.ne rfl rfl) ?_
            refine WP.s .n (O.mv rfl) ?_
            refine WP.splitD 103 rfl (fun h_t103 => ?_) (fun h_t103 => ?_)
            · refine WP.s (.g rfl rfl) (O.mv rfl) ?_
              refine WP.s (.g rfl rfl) (O.mv rfl) ?_
              refine WP.s (.g rfl rfl) (O.ixR (k := kVal) (xs := us) (n := (i : Int)) i rfl rfl (mem_at 3 rfl) Try.underlying194 ty195 rfl (by first | omega | (rw [tabR_rlen (by omega)]; omega) | (rw [List.length_set]; omega))) ?_
              refine WP.s (.g rfl rfl) (OpOk.le (O.ldR i rfl (mem_at 3 rfl) (Lens.id _) rfl (y := (us.getD i nilV)) (gd nilV (by first | omega | (rw [tabR_rlen (by omega)]; omega) | (rw [List.length_set]; omega))) ty195 rfl) (val_ex _)) ?_
              refine WP.s (.g rfl rfl) (O.mv rfl) ?_
              refine WP.s (.g rfl rfl) (O.ixF (e := 60) (k := (kPair kC kC)) (xss := (tabR n n (elimF (dvF f p top c) top c i))) (n := (c : Int)) i c rfl rfl (mem_at 4 rfl) rfl (by first | omega | (rw [tabR_rlen (by omega)]; omega) | (rw [List.length_set]; omega)) Try.underlying195 ty60 rfl (by first | omega | (rw [tabR_rlen (by omega)]; omega) | (rw [List.length_set]; omega))) ?_
              refine WP.s (.g rfl rfl) (O.ldF (k := (kPair kC kC)) (xss := (tabR n n (elimF (dvF f p top c) top c i))) i c rfl (mem_at 4 rfl) rfl (by first | omega | (rw [tabR_rlen (by omega)]; omega) | (rw [List.length_set]; omega)) (Lens.id _) rfl (y := (rq (dvF f p top c i c))) (tabR_at2 (dvF f p top c i c) (by omega) (by omega) elimF_i) ty60 rfl) ?_
              refine WP.s (.g rfl rfl) (O.fn fn246 (evs.c rfl evs.nil) (c_ref06_zero (szE 256 c) (dvF f p top c i c) (dvF_RZ1 hR.z (by omega) c) (by have := hsz c (by omega); omega))) ?_
              refine WP.s (.g rfl rfl) (O.not rfl) ?_
              refine WP.s .n (O.pickT rfl rfl) ?_
              refine WP.nil ?_
              refine QE.next ?_
              refine CW.cond rfl (fun h_t113 => ?_) (fun h_t113 => ?_)
              · refine CW.region ?_
                refine WP.s .n (O.mv rfl) ?_
                refine WP.s .n (O.mv rfl) ?_
                refine WP.s .n (O.mv rfl) ?_
                refine WP.s .n (O.mv rfl) ?_
                refine WP.s .n (O.mv rfl) ?_
                refine WP.s .n (O.ixR (k := kVal) (xs := us) (n := (i : Int)) i rfl rfl (mem_at 3 rfl) Try.underlying194 ty195 rfl (by first | omega | (rw [tabR_rlen (by omega)]; omega) | (rw [List.length_set]; omega))) ?_
                refine WP.s .n (OpOk.le (O.ldR i rfl (mem_at 3 rfl) (Lens.id _) rfl (y := (us.getD i nilV)) (gd nilV (by first | omega | (rw [tabR_rlen (by omega)]; omega) | (rw [List.length_set]; omega))) ty195 rfl) (val_ex _)) ?_
                refine WP.s .n (O.mv rfl) ?_
                refine WP.s .n (O.ixF (e := 60) (k := (kPair kC kC)) (xss := (tabR n n (elimF (dvF f p top c) top c i))) (n := (c : Int)) i c rfl rfl (mem_at 4 rfl) rfl (by first | omega | (rw [tabR_rlen (by omega)]; omega) | (rw [List.length_set]; omega)) Try.underlying195 ty60 rfl (by first | omega | (rw [tabR_rlen (by omega)]; omega) | (rw [List.length_set]; omega))) ?_
                refine WP.s .n (O.ldF (k := (kPair kC kC)) (xss := (tabR n n (elimF (dvF f p top c) top c i))) i c rfl (mem_at 4 rfl) rfl (by first | omega | (rw [tabR_rlen (by omega)]; omega) | (rw [List.length_set]; omega)) (Lens.id _) rfl (y := (rq (dvF f p top c i c))) (tabR_at2 (dvF f p top c i c) (by omega) (by omega) elimF_i) ty60 rfl) ?_
                refine ST.oimp (OImp.ix [3, 4, 0, 1, 2] (by decide) rfl) ?_
                refine WP.call (Li := [OB.row vO 195 kVal us, OB.fam us 60 (kPair kC kC) (tabR n n (elimF (dvF f p top c) top c i))]) (L := [OB.row vh 3 kI64 hs, OB.box b2 60 (kPair kC kC) (rq (sgD d p top * f p c)), OB.box b1 60 (kPair kC kC) (0, 0)]) .n fn250 (evs.c rfl (evs.c rfl (evs.c rfl (evs.c rfl evs.nil)))) (c_ref06_lose n (szE 256 c) i top (elimF (dvF f p top c) top c i) (dvF f p top c i c) vO us (by omega) (by omega) (by omega) (by omega) (by omega) (by have := hsz c (by omega); omega) (fun x => by rw [elimF_i]; exact dvF_RZ1 hR.z (by omega) x) (fun x => by rw [elimF_top]; exact dvF_RZ hR.z hne top x) (dvF_RZ1 hR.z (by omega) c)) fun p_ Lo_ hp_ => ?_
                obtain ⟨rfl, rfl, hx_t124⟩ := hp_
                refine WP.nil ?_
                refine QE.blkN ?_
                refine QE.next ?_
                refine CW.region ?_
                refine WP.s .n (O.mv rfl) ?_
                refine WP.s .n (O.add rfl rfl (c := ((i : Int) + 1)) (w64 (by omega))) ?_
                refine WP.s .n (O.asg rfl) ?_
                refine WP.nil ?_
                refine ST.oimp (OImp.ix [2, 3, 4, 0, 1] (by decide) rfl) ?_
                refine ST.obtold 4 rfl (OB.fam_eq rfl (yss := (tabR n n (elimF (dvF f p top c) top c (i + 1)))) (elimF_lose2 (by omega))) ?_
                exact QE.round (i + 1) (by omega) (by omega) (Imp.cons rfl (Imp.cons rfl (Imp.cons rfl (Imp.cons rfl (Imp.cons rfl (Imp.cons rfl (Imp.cons rfl (Imp.consLe rfl (is_eq (y := (((i + 1) : Nat) : Int)) (by first | rfl | omega | assumption)) Imp.nil)))))))) (OImp.refl _)
              · refine CW.skip ?_
                refine QE.blkN ?_
                refine QE.next ?_
                refine CW.region ?_
                refine WP.s .n (O.mv rfl) ?_
                refine WP.s .n (O.add rfl rfl (c := ((i : Int) + 1)) (w64 (by omega))) ?_
                refine WP.s .n (O.asg rfl) ?_
                refine WP.nil ?_
                refine ST.obtold 4 rfl (OB.fam_eq rfl (yss := (tabR n n (elimF (dvF f p top c) top c (i + 1)))) (by rw [elimF_skip (.inr (by simpa using h_t113))])) ?_
                exact QE.round (i + 1) (by omega) (by omega) (Imp.cons rfl (Imp.cons rfl (Imp.cons rfl (Imp.cons rfl (Imp.cons rfl (Imp.cons rfl (Imp.cons rfl (Imp.consLe rfl (is_eq (y := (((i + 1) : Nat) : Int)) (by first | rfl | omega | assumption)) Imp.nil)))))))) (OImp.refl _)
            · refine WP.ku (b := false) rfl rfl ?_
              refine WP.ku (b := false) rfl rfl ?_
              refine WP.ku (b := false) rfl rfl ?_
              refine WP.ku (b := false) rfl rfl ?_
              refine WP.ku (b := false) rfl rfl ?_
              refine WP.ku (b := false) rfl rfl ?_
              refine WP.ku (b := false) rfl rfl ?_
              refine WP.ku (b := false) rfl rfl ?_
              refine WP.ku (b := false) rfl rfl ?_
              refine WP.s .n (O.pickF rfl rfl) ?_
              refine WP.nil ?_
              refine QE.next ?_
              refine CW.condF rfl ?_
              refine CW.skip ?_
              refine QE.blkN ?_
              refine QE.next ?_
              refine CW.region ?_
              refine WP.s .n (O.mv rfl) ?_
              refine WP.s .n (O.add rfl rfl (c := ((i : Int) + 1)) (w64 (by omega))) ?_
              refine WP.s .n (O.asg rfl) ?_
              refine WP.nil ?_
              refine ST.obtold 4 rfl (OB.fam_eq rfl (yss := (tabR n n (elimF (dvF f p top c) top c (i + 1)))) (by rw [elimF_skip (.inl (by omega))])) ?_
              exact QE.round (i + 1) (by omega) (by omega) (Imp.cons rfl (Imp.cons rfl (Imp.cons rfl (Imp.cons rfl (Imp.cons rfl (Imp.cons rfl (Imp.cons rfl (Imp.consLe rfl (is_eq (y := (((i + 1) : Nat) : Int)) (by first | rfl | omega | assumption)) Imp.nil)))))))) (OImp.refl _)
          · refine CW.exit ?_
            refine QE.thenE ?_
            refine QE.thenE ?_
            refine QE.blkH ?_
            refine QE.next ?_
            refine CW.seq ?_
            refine CW.region ?_
            refine WP.s .n (O.mv rfl) ?_
            refine WP.s .n (O.mv rfl) ?_
            refine WP.s .n (O.bs Try.underlying28 el3_int (evl.l rfl (i64_int (by omega)) evl.n) rfl (by decide)) ?_
            refine WP.ap 0 .n rfl rfl rfl (VP.le_refl _) Try.underlying28 el3_int (by first | omega | (simp; omega)) fun v4 => ?_
            refine WP.s .n (O.asg rfl) ?_
            refine WP.nil ?_
            refine QE.next ?_
            refine CW.region ?_
            refine WP.s .n (O.mv rfl) ?_
            refine WP.s .n (O.add rfl rfl (c := ((top : Int) + 1)) (w64 (by omega))) ?_
            refine WP.s .n (O.asg rfl) ?_
            refine WP.nil ?_
            refine QE.blkN ?_
            refine QE.next ?_
            refine CW.region ?_
            refine WP.s .n (O.mv rfl) ?_
            refine WP.s .n (O.add rfl rfl (c := ((c : Int) + 1)) (w64 (by omega))) ?_
            refine WP.s .n (O.asg rfl) ?_
            refine WP.nil ?_
            refine ST.obtold 4 rfl (OB.fam_eq rfl (yss := (tabR n n (rdcF f p top c n))) (by rw [show i = n by omega]; rfl)) ?_
            exact QE.round7 (c + 1) (top + 1) (rdcF f p top c n) (sgD d p top * f p c) us v4 (hs ++ [(c : Int)]) (by omega) ⟨red_step hS.s hR (by omega) hp (by omega) hne h0, hus, by simp; omega⟩ (Imp.cons rfl (Imp.cons rfl (Imp.cons rfl (Imp.cons rfl (Imp.cons rfl (Imp.consLe rfl (is_eq (y := (((top + 1) : Nat) : Int)) (by first | rfl | omega | assumption)) (Imp.consLe rfl (is_eq (y := (((c + 1) : Nat) : Int)) (by first | rfl | omega | assumption)) Imp.nil))))))) (OImp.refl _)
    · refine WP.ku (b := false) rfl rfl ?_
      refine WP.ku (b := false) rfl rfl ?_
      refine WP.ku (b := false) rfl rfl ?_
      refine WP.ku (b := false) rfl rfl ?_
      refine WP.ku (b := false) rfl rfl ?_
      refine WP.ku (b := false) rfl rfl ?_
      refine WP.ku (b := false) rfl rfl ?_
      refine WP.ku (b := false) rfl rfl ?_
      refine WP.s .n (O.pickF rfl rfl) ?_
      refine WP.nil ?_
      refine QE.next ?_
      refine CW.condF rfl ?_
      refine CW.exit ?_
      refine QE.thenE ?_
      refine QE.thenE ?_
      refine QE.blkH ?_
      refine QE.next ?_
      refine CW.seq ?_
      refine CW.seq ?_
      refine CW.region ?_
      refine WP.s .n (O.mv rfl) ?_
      refine WP.s .n (O.mv rfl) ?_
      refine WP.s .n (O.lenR rfl (mem_at 3 rfl) Try.underlying194) ?_
      refine WP.s .n (O.eq rfl rfl) ?_
      refine WP.nil ?_
      refine QE.next ?_
      refine CW.condD rfl (fun h_t42 => ?_) (fun h => absurd (by omega) h)
      refine CW.seq ?_
      refine CW.region ?_
      refine WP.s .n (O.fn fn78 (evs.l rfl (i64_int (by omega)) evs.nil) (c_ref02_Of 0)) ?_
      refine WP.s .n (O.fn fn245 (evs.l rfl (kC_Z (by exact Sm_lit (by decide))) evs.nil) (c_ref03_Of 0)) ?_
      refine WP.t .n (O.stW (l := (kPair kC kC)) (u := rq (0 : Rat)) 1 rfl rfl rfl ty60 rfl (VP.le_refl _)) ?_
      refine WP.nil ?_
      refine QE.next ?_
      refine CW.exit ?_
      refine QE.thenE ?_
      refine QE.blkH ?_
      refine QE.next ?_
      refine CW.region ?_
      refine WP.s .n (O.mv rfl) ?_
      refine WP.s .n (O.add rfl rfl (c := ((c : Int) + 1)) (w64 (by omega))) ?_
      refine WP.s .n (O.asg rfl) ?_
      refine WP.nil ?_
      refine ST.obtold 1 rfl (OB.box_eq (y := (rq 0)) rfl) ?_
      exact QE.round7 (c + 1) top f 0 vs vh hs (by omega) ⟨red_none hS.s hR (by omega) (fun q h1 h2 => h0 q h1 (by omega)), hvs, by omega⟩ (Imp.cons rfl (Imp.cons rfl (Imp.cons rfl (Imp.cons rfl (Imp.cons rfl (Imp.cons rfl (Imp.consLe rfl (is_eq (y := (((c + 1) : Nat) : Int)) (by first | rfl | omega | assumption)) Imp.nil))))))) (OImp.refl _)
  · refine CW.exit ?_
    refine QE.thenE ?_
    refine QE.thenE ?_
    refine QE.blkH ?_
    refine QE.next ?_
    refine CW.seq ?_
    have hEnd : RedI (matF b) n 256 n top f d := by rw [show c = n by omega] at hR; exact hR
    refine CW.join [(0, VP.ex vO), (1, (kInt .i64).is (n : Int)), (4, VP.tt), (5, VP.ex vh), (6, VP.ex (.pointer (some ⟨b1, 0, none⟩))), (7, VP.ex (.pointer (some ⟨b2, 0, none⟩))), (8, VP.ex vh), (9, (kInt .i64).is (top : Int)), (10, (kInt .i64).is (c : Int)), (17, (kInt .i64).is (c : Int)), (18, (kInt .i64).is (n : Int)), (19, kBool.is (decide ((c : Int) < (n : Int)))), (131, VP.ex vO), (132, (kInt .i64).is (top : Int)), (133, VP.tt), (134, VP.ex vh), (135, (kPair kC kC).is (rq d))] [OB.row vh 3 kI64 hs, OB.box b2 60 (kPair kC kC) (rq d), OB.box b1 60 (kPair kC kC) (rq d), OB.row vO 195 kVal vs, OB.fam vs 60 (kPair kC kC) (tabR n n f)] ?_ ?_
    · refine CW.any (by kernel_rfl) ?_
      refine DA.first 0 rfl (by kernel_rfl) (by kernel_rfl) (by kernel_rfl) (fun _ _ _ _ _ h => h) .n (OV.mv rfl) ?_
      refine DA.first 1 rfl (by kernel_rfl) (by kernel_rfl) (by kernel_rfl) (fun _ _ _ _ _ h => h) .n (OV.mv rfl) ?_
      refine DA.first 3 rfl (by kernel_rfl) (by kernel_rfl) (by kernel_rfl) (fun _ _ _ _ _ h => h) .n (OV.mv rfl) ?_
      refine DA.go 2 [4] (by kernel_rfl) ⟨?_, ⟨?_, trivial⟩⟩
      · refine DO.w rfl ?_
        refine WP.s .n (O.slT top (mem_at 3 rfl) rfl rfl Try.underlying194 ty195 rfl (by first | omega | (rw [tabR_rlen (by omega)]; omega) | (rw [List.length_set]; omega))) ?_
        refine WP.nil ?_
        refine DO.nx ?_
        refine DA.go 4 [5] (by kernel_rfl) ⟨?_, ⟨?_, trivial⟩⟩
        · refine DO.w rfl ?_
          refine WP.s .n (O.ld rfl (mem_at 1 rfl) (Lens.id _) ty60 rfl) ?_
          refine WP.nil ?_
          refine DO.nx ?_
          refine DA.go 5 [] (by kernel_rfl) ⟨?_, trivial⟩
          refine DO.w rfl ?_
          refine WP.s .n (O.asg rfl) ?_
          refine WP.nil ?_
          refine DO.nx ?_
          refine DA.go 6 [] (by kernel_rfl) ⟨?_, trivial⟩
          refine DO.w rfl ?_
          refine WP.s .n (O.asg rfl) ?_
          refine WP.nil ?_
          refine DO.nx ?_
          refine DA.go 7 [] (by kernel_rfl) ⟨?_, trivial⟩
          refine DO.w rfl ?_
          refine WP.t .n (O.stW (l := (kPair kC kC)) (u := (rq d)) 2 rfl rfl rfl ty60 rfl (VP.le_refl _)) ?_
          refine WP.nil ?_
          refine DO.nx ?_
          refine DA.nil (by kernel_rfl) ?_
          exact QE.join (Imp.cons rfl (Imp.cons rfl (Imp.cons rfl (Imp.cons rfl (Imp.cons rfl (Imp.cons rfl (Imp.cons rfl (Imp.cons rfl (Imp.cons rfl (Imp.cons rfl (Imp.cons rfl (Imp.cons rfl (Imp.cons rfl (Imp.cons rfl (Imp.cons rfl (Imp.cons rfl (Imp.cons rfl Imp.nil))))))))))))))))) (OImp.refl _)
        · refine DO.w rfl ?_
          refine WP.s .n (O.asg rfl) ?_
          refine WP.nil ?_
          refine DO.nx ?_
          refine DA.go 4 [6] (by kernel_rfl) ⟨?_, ⟨?_, trivial⟩⟩
          · refine DO.w rfl ?_
            refine WP.s .n (O.ld rfl (mem_at 1 rfl) (Lens.id _) ty60 rfl) ?_
            refine WP.nil ?_
            refine DO.nx ?_
            refine DA.go 6 [] (by kernel_rfl) ⟨?_, trivial⟩
            refine DO.w rfl ?_
            refine WP.s .n (O.asg rfl) ?_
            refine WP.nil ?_
            refine DO.nx ?_
            refine DA.go 7 [] (by kernel_rfl) ⟨?_, trivial⟩
            refine DO.w rfl ?_
            refine WP.t .n (O.stW (l := (kPair kC kC)) (u := (rq d)) 2 rfl rfl rfl ty60 rfl (VP.le_refl _)) ?_
            refine WP.nil ?_
            refine DO.nx ?_
            refine DA.nil (by kernel_rfl) ?_
            exact QE.join (Imp.cons rfl (Imp.cons rfl (Imp.cons rfl (Imp.cons rfl (Imp.cons rfl (Imp.cons rfl (Imp.cons rfl (Imp.cons rfl (Imp.cons rfl (Imp.cons rfl (Imp.cons rfl (Imp.cons rfl (Imp.cons rfl (Imp.cons rfl (Imp.cons rfl (Imp.cons rfl (Imp.cons rfl Imp.nil))))))))))))))))) (OImp.refl _)
          · refine DO.w rfl ?_
            refine WP.s .n (O.asg rfl) ?_
            refine WP.nil ?_
            refine DO.nx ?_
            refine DA.go 4 [] (by kernel_rfl) ⟨?_, trivial⟩
            refine DO.w rfl ?_
            refine WP.s .n (O.ld rfl (mem_at 1 rfl) (Lens.id _) ty60 rfl) ?_
            refine WP.nil ?_
            refine DO.nx ?_
            refine DA.go 7 [] (by kernel_rfl) ⟨?_, trivial⟩
            refine DO.w rfl ?_
            refine WP.t .n (O.stW (l := (kPair kC kC)) (u := (rq d)) 2 rfl rfl rfl ty60 rfl (VP.le_refl _)) ?_
            refine WP.nil ?_
            refine DO.nx ?_
            refine DA.nil (by kernel_rfl) ?_
            exact QE.join (Imp.cons rfl (Imp.cons rfl (Imp.cons rfl (Imp.cons rfl (Imp.cons rfl (Imp.cons rfl (Imp.cons rfl (Imp.cons rfl (Imp.cons rfl (Imp.cons rfl (Imp.cons rfl (Imp.cons rfl (Imp.cons rfl (Imp.cons rfl (Imp.cons rfl (Imp.cons rfl (Imp.cons rfl Imp.nil))))))))))))))))) (OImp.refl _)
      · refine DO.w rfl ?_
        refine WP.s .n (O.ld rfl (mem_at 1 rfl) (Lens.id _) ty60 rfl) ?_
        refine WP.nil ?_
        refine DO.nx ?_
        refine DA.go 2 [] (by kernel_rfl) ⟨?_, trivial⟩
        refine DO.w rfl ?_
        refine WP.s .n (O.slT top (mem_at 3 rfl) rfl rfl Try.underlying194 ty195 rfl (by first | omega | (rw [tabR_rlen (by omega)]; omega) | (rw [List.length_set]; omega))) ?_
        refine WP.nil ?_
        refine DO.nx ?_
        refine DA.go 5 [] (by kernel_rfl) ⟨?_, trivial⟩
        refine DO.w rfl ?_
        refine WP.s .n (O.asg rfl) ?_
        refine WP.nil ?_
        refine DO.nx ?_
        refine DA.go 6 [] (by kernel_rfl) ⟨?_, trivial⟩
        refine DO.w rfl ?_
        refine WP.s .n (O.asg rfl) ?_
        refine WP.nil ?_
        refine DO.nx ?_
        refine DA.go 7 [] (by kernel_rfl) ⟨?_, trivial⟩
        refine DO.w rfl ?_
        refine WP.t .n (O.stW (l := (kPair kC kC)) (u := (rq d)) 2 rfl rfl rfl ty60 rfl (VP.le_refl _)) ?_
        refine WP.nil ?_
        refine DO.nx ?_
        refine DA.nil (by kernel_rfl) ?_
        exact QE.join (Imp.cons rfl (Imp.cons rfl (Imp.cons rfl (Imp.cons rfl (Imp.cons rfl (Imp.cons rfl (Imp.cons rfl (Imp.cons rfl (Imp.cons rfl (Imp.cons rfl (Imp.cons rfl (Imp.cons rfl (Imp.cons rfl (Imp.cons rfl (Imp.cons rfl (Imp.cons rfl (Imp.cons rfl Imp.nil))))))))))))))))) (OImp.refl _)
    refine QE.next ?_
    refine CW.ret ?_
    exact QE.done (.inl rfl) rfl (ResOk.t rfl (ResOk.tl rfl (fun _ _ _ => trivial) (ResOk.c rfl (mem_at 2 rfl) ty60 ResOk.nil))) (OImp.sub (List.nil_sublist _)) ⟨d, top, f, rfl, rfl, hEnd⟩

end Fw


/- Determinants by fractions; the document on forms; QuadValues. -/
set_option linter.unusedVariables false
set_option linter.unusedSimpArgs false
set_option exponentiation.threshold 400
namespace Fw
open Go Go.Proofs

set_option maxRecDepth 20000 in
set_option maxHeartbeats 1000000 in
theorem c_ref06_Check (b : List (List Int)) (hS : Sqd b) : Fn Try.prog 214 [(kSl (kSl kZ)).is b] ((kInt .i64).is 0) := by
  refine Con.enter Try.func214 rfl rfl fun m w => ?_
  have hsh := sh_sqd hS
  have hn12 := hS.n
  refine CW.seq ?_
  refine CW.region ?_
  refine WP.s .n (O.asg rfl) ?_
  refine WP.nil ?_
  refine QE.next ?_
  refine CW.seq ?_
  refine CW.region ?_
  refine WP.s .n (O.mv rfl) ?_
  refine WP.s .n (O.fn fn172 (evs.c rfl evs.nil) (c_ref04_Shape b)) ?_
  refine WP.s .n (O.mv rfl) ?_
  refine WP.s .n (O.ext rfl rfl) ?_
  refine WP.s .n (O.ext rfl rfl) ?_
  refine WP.s .n (O.ext rfl rfl) ?_
  refine WP.s .n (O.asg rfl) ?_
  refine WP.s .n (O.asg rfl) ?_
  refine WP.s .n (O.asg rfl) ?_
  refine WP.nil ?_
  refine QE.next ?_
  refine CW.seq ?_
  refine CW.seq ?_
  refine CW.region ?_
  refine WP.s .n (O.mv rfl) ?_
  refine WP.s .n (O.ne rfl rfl) ?_
  refine WP.nil ?_
  refine QE.next ?_
  refine CW.condD rfl (fun h => absurd h (by omega)) (fun h_t13 => ?_)
  refine CW.skip ?_
  refine QE.next ?_
  refine CW.seq ?_
  refine CW.seq ?_
  refine CW.region ?_
  refine WP.s .n (O.mv rfl) ?_
  refine WP.s .n (O.gt rfl rfl) ?_
  refine WP.s .n (O.mv rfl) ?_
  refine WP.splitD 16 rfl (fun h => absurd h (by omega)) (fun h_t16 => ?_)
  refine WP.s (.g rfl rfl) (O.mv rfl) ?_
  refine WP.s (.g rfl rfl) (O.gt rfl rfl) ?_
  refine WP.s .n (O.pickF rfl rfl) ?_
  refine WP.nil ?_
  refine QE.next ?_
  refine CW.condD rfl (fun h => absurd h (by omega)) (fun h_t19 => ?_)
  refine CW.skip ?_
  refine QE.next ?_
  refine CW.seq ?_
  refine CW.region ?_
  refine WP.s .n (O.asg rfl) ?_
  refine WP.nil ?_
  refine QE.next ?_
  refine CW.ret ?_
  exact QE.done (.inl rfl) rfl (ResOk.t rfl ResOk.nil) (OImp.sub (List.nil_sublist _)) ⟨rfl, rfl⟩

set_option maxRecDepth 20000 in
set_option maxHeartbeats 1000000 in
theorem c_ref06_cols (b : List (List Int)) (hS : Sqd b) : Fn Try.prog 215 [(kSl (kSl kZ)).is b] ((kInt .i64).is (b.length : Int)) := by
  refine Con.enter Try.func215 rfl rfl fun m w => ?_
  have hsh := sh_sqd hS
  refine CW.seq ?_
  refine CW.region ?_
  refine WP.s .n (O.asg rfl) ?_
  refine WP.nil ?_
  refine QE.next ?_
  refine CW.seq ?_
  refine CW.region ?_
  refine WP.s .n (O.mv rfl) ?_
  refine WP.s .n (O.fn fn172 (evs.c rfl evs.nil) (c_ref04_Shape b)) ?_
  refine WP.s .n (O.mv rfl) ?_
  refine WP.s .n (O.ext rfl rfl) ?_
  refine WP.s .n (O.ext rfl rfl) ?_
  refine WP.s .n (O.ext rfl rfl) ?_
  refine WP.s .n (O.asg rfl) ?_
  refine WP.s .n (O.asg rfl) ?_
  refine WP.s .n (O.asg rfl) ?_
  refine WP.nil ?_
  refine QE.next ?_
  refine CW.seq ?_
  refine CW.region ?_
  refine WP.s .n (O.mv rfl) ?_
  refine WP.s .n (O.asg rfl) ?_
  refine WP.nil ?_
  refine QE.next ?_
  refine CW.ret ?_
  exact QE.done (.inl rfl) rfl (ResOk.tl rfl (is_eq (y := (b.length : Int)) (by first | rfl | omega)) ResOk.nil) (OImp.sub (List.nil_sublist _)) ⟨rfl, rfl⟩

set_option maxRecDepth 20000 in
set_option maxHeartbeats 1000000 in
theorem c_ref06_Det (b : List (List Int)) (hS : Sqd b) : Con Try.prog 173 [(kSl (kSl kZ)).is b] [] (fun p Lo => ∃ (d : Int), p = VP.tup [kC.is d, (kInt .i64).is 0] ∧ Lo = [] ∧ DetP b d) := by
  refine Con.enter Try.func173 rfl rfl fun m w => ?_
  refine CW.seq ?_
  refine CW.region ?_
  refine WP.al .n z31_C fun b1 => ?_
  refine WP.s .n (O.asg rfl) ?_
  refine WP.nil ?_
  refine QE.next ?_
  refine CW.seq ?_
  refine CW.region ?_
  refine WP.s .n (O.mv rfl) ?_
  refine WP.s .n (O.fn fn214 (evs.c rfl evs.nil) (c_ref06_Check b (by assumption))) ?_
  refine WP.s .n (O.asg rfl) ?_
  refine WP.nil ?_
  refine QE.next ?_
  refine CW.seq ?_
  refine CW.seq ?_
  refine CW.region ?_
  refine WP.s .n (O.mv rfl) ?_
  refine WP.s .n (O.ne rfl rfl) ?_
  refine WP.nil ?_
  refine QE.next ?_
  refine CW.condD rfl (fun h => absurd h (by omega)) (fun h_t11 => ?_)
  refine CW.skip ?_
  refine QE.next ?_
  refine CW.seq ?_
  refine CW.seq ?_
  refine CW.region ?_
  refine WP.s .n (O.mv rfl) ?_
  refine WP.s .n (O.lenS rfl Try.underlying67) ?_
  refine WP.s .n (O.mv rfl) ?_
  refine WP.s .n (O.fn fn215 (evs.c rfl evs.nil) (c_ref06_cols b (by assumption))) ?_
  refine WP.s .n (O.ne rfl rfl) ?_
  refine WP.nil ?_
  refine QE.next ?_
  refine CW.condD rfl (fun h => absurd h (by omega)) (fun h_t18 => ?_)
  refine CW.skip ?_
  refine QE.next ?_
  refine CW.seq ?_
  have hbl : b.length = b.length := rfl
  refine CW.region ?_
  refine WP.s .n (O.mv rfl) ?_
  refine WP.call (Li := []) (L := [OB.box b1 31 kC 0]) .n fn217 (evs.c rfl evs.nil) (c_ref06_rats b hS) fun p_ Lo_ hp_ => ?_
  obtain ⟨v2, vs_t22, rfl, rfl, hx_t22⟩ := hp_
  refine WP.s .n (O.mv rfl) ?_
  refine WP.s .n (O.lenS rfl Try.underlying67) ?_
  refine WP.call (Li := [OB.row v2 195 kVal vs_t22, OB.fam vs_t22 60 (kPair kC kC) (tabR b.length b.length (qM b))]) (L := [OB.box b1 31 kC 0]) .n fn216 (evs.c rfl (evs.l rfl (is_eq (y := ((b.length : Nat) : Int)) (by first | rfl | omega | assumption)) evs.nil)) (c_ref06_reduced b b.length rfl hS v2 vs_t22 hx_t22) fun p_ Lo_ hp_ => ?_
  obtain ⟨d_t25, top_t25, f_t25, rfl, rfl, hx_t25⟩ := hp_
  refine WP.s .n (O.mv rfl) ?_
  refine WP.s .n (O.ext rfl rfl) ?_
  refine WP.s .n (O.ext rfl rfl) ?_
  refine WP.s .n (O.ext rfl rfl) ?_
  refine WP.al .n z60_pr_C_C_ fun b3 => ?_
  refine WP.s .n (O.asg rfl) ?_
  refine WP.s .n (O.asg rfl) ?_
  refine WP.t .n (O.stW (l := (kPair kC kC)) (u := rq d_t25) 0 rfl rfl rfl ty60 rfl (VP.le_refl _)) ?_
  refine WP.nil ?_
  refine QE.next ?_
  refine CW.seq ?_
  refine CW.region ?_
  refine WP.s .n (O.fa rfl fld60_0 rfl) ?_
  refine WP.s .n (O.ld rfl (mem_at 0 rfl) (Lens.fst (Lens.id _)) ty31 rfl) ?_
  refine WP.t .n (O.stW (l := kC) (u := (rq d_t25).1) 1 rfl rfl rfl ty31 rfl (VP.le_refl _)) ?_
  refine WP.s .n (O.asg rfl) ?_
  refine WP.nil ?_
  refine QE.next ?_
  refine CW.ret ?_
  exact QE.done (.inl rfl) rfl (ResOk.c rfl (mem_at 1 rfl) ty31 (ResOk.t rfl ResOk.nil)) (OImp.sub (List.nil_sublist _)) ⟨(rq d_t25).1, rfl, rfl, (det_end hS (by rw [← hbl] at hx_t25; exact hx_t25))⟩

set_option maxRecDepth 20000 in
set_option maxHeartbeats 1000000 in
theorem c_ref06_Minors (a : List (List Int)) (hS : Sqd a) : Con Try.prog 111 [(kSl (kSl kZ)).is a] [] (fun p Lo => ∃ (ds : List Int), p = VP.tup [(kSl kC).is ds, (kInt .i64).is 0] ∧ Lo = [] ∧ DetsOk a a.length ds) := by
  refine Con.enter Try.func111 rfl rfl fun m w => ?_
  refine ST.fact (i := 0) rfl sl_len fun hB => ?_
  refine ST.fact (i := 0) rfl slsl_len fun hlc => ?_
  have hn12 := hS.n
  have hn0 := hS.n0
  refine CW.seq ?_
  refine CW.region ?_
  refine WP.s .n (O.asg rfl) ?_
  refine WP.s .n (O.asg rfl) ?_
  refine WP.nil ?_
  refine QE.next ?_
  refine CW.seq ?_
  refine CW.region ?_
  refine WP.s .n (O.mv rfl) ?_
  refine WP.call (Li := []) (L := []) .n fn173 (evs.c rfl evs.nil) (c_ref06_Det a (by assumption)) fun p_ Lo_ hp_ => ?_
  obtain ⟨d_t14, rfl, rfl, hx_t14⟩ := hp_
  refine WP.s .n (O.mv rfl) ?_
  refine WP.s .n (O.ext rfl rfl) ?_
  refine WP.s .n (O.ext rfl rfl) ?_
  refine WP.al .n z31_C fun b1 => ?_
  refine WP.t .n (O.stW (l := kC) (u := d_t14) 0 rfl rfl rfl ty31 rfl (VP.le_refl _)) ?_
  refine WP.s .n (O.asg rfl) ?_
  refine WP.nil ?_
  refine QE.next ?_
  refine CW.seq ?_
  refine CW.seq ?_
  refine CW.region ?_
  refine WP.s .n (O.mv rfl) ?_
  refine WP.s .n (O.ne rfl rfl) ?_
  refine WP.nil ?_
  refine QE.next ?_
  refine CW.condD rfl (fun h => absurd h (by omega)) (fun h_t18 => ?_)
  refine CW.skip ?_
  refine QE.next ?_
  refine CW.seq ?_
  refine CW.region ?_
  refine WP.s .n (O.asg rfl) ?_
  refine WP.nil ?_
  refine QE.next ?_
  refine CW.seq ?_
  refine CW.seq ?_
  refine CW.region ?_
  refine WP.s .n (O.asg rfl) ?_
  refine WP.nil ?_
  refine QE.next ?_
  refine CW.block ?_
  refine ST.nilrow 31 kC ?_
  refine CW.loop3 (fun (k : Nat) (v : Value) (ds : List Int) => k ≤ a.length ∧ DetsOk a k ds) (fun (k : Nat) (v : Value) (ds : List Int) => [(0, (kSl (kSl kZ)).is a), (6, VP.ex v), (7, (kInt .i64).is ((k : Int) + 1))]) (fun (k : Nat) (v : Value) (ds : List Int) => [OB.row v 31 kC ds]) (fun (k : Nat) (v : Value) (ds : List Int) => a.length - k) 0 (.slice none 0 0) [] ⟨Nat.zero_le _, dets_0 a⟩ (Imp.cons rfl (Imp.cons rfl (Imp.consLe rfl (is_eq (y := ((0 : Int) + 1)) (by first | rfl | omega | assumption)) Imp.nil))) (OImp.os (OS.keep (OS.skip OS.nil))) ?_
  intro k v ds ⟨hk, hD⟩
  refine CW.seq ?_
  refine CW.seq ?_
  refine CW.region ?_
  refine WP.s .n (O.mv rfl) ?_
  refine WP.s .n (O.mv rfl) ?_
  refine WP.s .n (O.lenS rfl Try.underlying67) ?_
  refine WP.s .n (O.le rfl rfl) ?_
  refine WP.nil ?_
  refine QE.next ?_
  refine CW.condD rfl (fun h_t23 => ?_) (fun h_t23 => ?_)
  · refine CW.skip ?_
    refine QE.next ?_
    refine CW.seq ?_
    refine CW.block ?_
    refine CW.seq ?_
    refine CW.region ?_
    refine WP.s .n (O.asg rfl) ?_
    refine WP.nil ?_
    refine QE.next ?_
    refine CW.seq ?_
    refine CW.seq ?_
    refine CW.region ?_
    refine WP.s .n (O.asg rfl) ?_
    refine WP.nil ?_
    refine QE.next ?_
    refine CW.block ?_
    refine ST.nilrow 27 (kSl kZ) ?_
    have hdl := hD.1
    refine CW.loop2 (fun (i : Nat) (u : Value) => i ≤ k + 1) (fun (i : Nat) (u : Value) => [(0, (kSl (kSl kZ)).is a), (6, VP.ex v), (7, (kInt .i64).is ((k : Int) + 1)), (8, VP.ex u), (9, (kInt .i64).is (i : Int))]) (fun (i : Nat) (u : Value) => [OB.row u 27 (kSl kZ) ((a.take i).map (fun r => r.take (k + 1))), OB.row v 31 kC ds]) (fun (i : Nat) (u : Value) => k + 1 - i) 0 (.slice none 0 0) (by omega) (Imp.cons rfl (Imp.cons rfl (Imp.cons rfl (Imp.cons rfl (Imp.consLe rfl (is_eq (y := (0 : Int)) (by first | rfl | omega | assumption)) Imp.nil))))) (OImp.os (OS.keepLe (OB.row_eq (by first | rfl | omega | assumption)) (OS.keep OS.nil))) ?_
    intro i u hi
    refine CW.seq ?_
    refine CW.seq ?_
    refine CW.region ?_
    refine WP.s .n (O.mv rfl) ?_
    refine WP.s .n (O.mv rfl) ?_
    refine WP.s .n (O.lt rfl rfl) ?_
    refine WP.nil ?_
    refine QE.next ?_
    refine CW.condD rfl (fun h_t28 => ?_) (fun h_t28 => ?_)
    · refine CW.skip ?_
      refine QE.next ?_
      refine CW.seq ?_
      refine CW.block ?_
      refine CW.region ?_
      refine WP.s .n (O.mv rfl) ?_
      refine WP.s .n (O.mv rfl) ?_
      refine WP.s .n (O.mv rfl) ?_
      refine WP.s .n (O.ix i rfl rfl Try.underlying67 ty27 rfl (v := (a.getD i [])) (gd [] (by first | omega | (have := hS.q i (by omega); omega)))) ?_
      refine WP.s .n (O.ldP rfl ty27) ?_
      refine WP.s .n (O.mv rfl) ?_
      refine WP.s .n (O.slH (k + 1) rfl rfl Try.underlying27 ty31 (by omega) (by first | omega | (have := hS.q i (by omega); omega))) ?_
      refine WP.s .n (O.bs Try.underlying67 el27_sl_Z (evl.c rfl evl.n) rfl (by decide)) ?_
      refine WP.ap 0 .n rfl rfl rfl (VP.le_refl _) Try.underlying67 el27_sl_Z (by (simp only [List.length_cons, List.length_nil, List.length_map, List.length_take]; omega)) fun v2 => ?_
      refine WP.s .n (O.asg rfl) ?_
      refine WP.nil ?_
      refine QE.blkN ?_
      refine QE.next ?_
      refine CW.region ?_
      refine WP.s .n (O.mv rfl) ?_
      refine WP.s .n (O.add rfl rfl (c := ((i : Int) + 1)) (w64 (by omega))) ?_
      refine WP.s .n (O.asg rfl) ?_
      refine WP.nil ?_
      refine ST.obtold 0 rfl (OB.row_eq (ys := ((a.take (i + 1)).map (fun r => r.take (k + 1)))) (subM_app (by omega))) ?_
      exact QE.round2 (i + 1) v2 (by omega) (by omega) (Imp.cons rfl (Imp.cons rfl (Imp.cons rfl (Imp.cons rfl (Imp.consLe rfl (is_eq (y := (((i + 1) : Nat) : Int)) (by first | rfl | omega | assumption)) Imp.nil))))) (OImp.refl _)
    · refine CW.exit ?_
      refine QE.thenE ?_
      refine QE.thenE ?_
      refine QE.blkH ?_
      refine QE.next ?_
      refine CW.seq ?_
      refine ST.obtold 0 rfl (OB.row_eq (ys := (subM a (k + 1))) (by rw [show i = k + 1 by omega]; rfl)) ?_
      refine CW.region ?_
      refine WP.s .n (O.mv rfl) ?_
      refine ST.freeze 0 rfl (.keep (i := 0) rfl (.keep (i := 6) rfl (.keep (i := 7) rfl (.hit (i := 8) rfl (.keep (i := 9) rfl (.keep (i := 26) rfl (.keep (i := 27) rfl (.keep (i := 28) rfl (.hit (i := 41) rfl .nil))))))))) ?_
      refine WP.call (Li := []) (L := [OB.row v 31 kC ds]) .n fn173 (evs.c rfl evs.nil) (c_ref06_Det (subM a (k + 1)) (sqd_sub hS (by omega) (by omega))) fun p_ Lo_ hp_ => ?_
      obtain ⟨d_t42, rfl, rfl, hx_t42⟩ := hp_
      refine WP.s .n (O.mv rfl) ?_
      refine WP.s .n (O.ext rfl rfl) ?_
      refine WP.s .n (O.ext rfl rfl) ?_
      refine WP.al .n z31_C fun b3 => ?_
      refine WP.t .n (O.stW (l := kC) (u := d_t42) 0 rfl rfl rfl ty31 rfl (VP.le_refl _)) ?_
      refine WP.s .n (O.asg rfl) ?_
      refine WP.nil ?_
      refine QE.next ?_
      refine CW.region ?_
      refine WP.s .n (O.mv rfl) ?_
      refine WP.s .n (O.ld rfl (mem_at 0 rfl) (Lens.id _) ty31 rfl) ?_
      refine WP.s .n (O.bs Try.underlying27 el31_C (evl.c rfl evl.n) rfl (by decide)) ?_
      refine WP.ap 1 .n rfl rfl rfl (VP.le_refl _) Try.underlying27 el31_C (by (simp only [List.length_cons, List.length_nil, List.length_map, List.length_take]; omega)) fun v4 => ?_
      refine WP.s .n (O.asg rfl) ?_
      refine WP.nil ?_
      refine QE.blkN ?_
      refine QE.next ?_
      refine CW.region ?_
      refine WP.s .n (O.mv rfl) ?_
      refine WP.s .n (O.add rfl rfl (c := (((k : Int) + 1) + 1)) (w64 (by omega))) ?_
      refine WP.s .n (O.asg rfl) ?_
      refine WP.nil ?_
      exact QE.round3 (k + 1) v4 (ds ++ [d_t42]) (by omega) ⟨by omega, dets_snoc (by omega) hD hx_t42⟩ (Imp.cons rfl (Imp.cons rfl (Imp.consLe rfl (is_eq (y := ((((k + 1) : Nat) : Int) + 1)) (by first | rfl | omega | assumption)) Imp.nil))) (OImp.os (OS.skip (OS.keep OS.nil)))
  · refine CW.exit ?_
    refine QE.thenE ?_
    refine QE.thenE ?_
    refine QE.blkH ?_
    refine QE.next ?_
    refine CW.seq ?_
    refine CW.region ?_
    refine WP.s .n (O.mv rfl) ?_
    refine WP.s .n (O.asg rfl) ?_
    refine WP.s .n (O.asg rfl) ?_
    refine WP.nil ?_
    refine QE.next ?_
    refine CW.ret ?_
    have hEnd : DetsOk a a.length ds := by rw [show k = a.length by omega] at hD; exact hD
    refine ST.freeze 0 rfl (.keep (i := 0) rfl (.hit (i := 2) rfl (.keep (i := 3) rfl (.hit (i := 6) rfl (.keep (i := 7) rfl (.keep (i := 20) rfl (.keep (i := 21) rfl (.keep (i := 22) rfl (.keep (i := 23) rfl (.hit (i := 49) rfl .nil)))))))))) ?_
    exact QE.done (.inl rfl) rfl (ResOk.t rfl (ResOk.t rfl ResOk.nil)) (OImp.refl _) ⟨ds, rfl, rfl, hEnd⟩

set_option maxRecDepth 20000 in
set_option maxHeartbeats 1000000 in
theorem c_ref04_Turn (n : Nat) (a : List (List Int)) (hr : RectL a) (hrb : rect a = true) : Fn Try.prog 109 [(kSl (kSl kZ)).is a] (VP.tup [(kSl (kSl kC)).is (turnV a), (kInt .i64).is 0]) := by
  refine Con.enter Try.func109 rfl rfl fun m w => ?_
  refine ST.fact (i := 0) rfl sl_len fun hB => ?_
  refine ST.fact (i := 0) rfl slsl_len fun hlc => ?_
  refine CW.seq ?_
  refine CW.region ?_
  refine WP.s .n (O.asg rfl) ?_
  refine WP.s .n (O.asg rfl) ?_
  refine WP.nil ?_
  refine QE.next ?_
  refine CW.seq ?_
  refine CW.region ?_
  refine WP.s .n (O.mv rfl) ?_
  refine WP.s .n (O.fn fn172 (evs.c rfl evs.nil) (c_ref04_Shape a)) ?_
  refine WP.s .n (O.mv rfl) ?_
  refine WP.s .n (O.ext rfl rfl) ?_
  refine WP.s .n (O.ext rfl rfl) ?_
  refine WP.s .n (O.ext rfl rfl) ?_
  refine WP.s .n (O.asg rfl) ?_
  refine WP.s .n (O.asg rfl) ?_
  refine WP.s .n (O.asg rfl) ?_
  refine WP.nil ?_
  refine QE.next ?_
  refine CW.seq ?_
  refine CW.seq ?_
  refine CW.region ?_
  refine WP.s .n (O.mv rfl) ?_
  refine WP.s .n (O.ne rfl rfl) ?_
  refine WP.nil ?_
  refine QE.next ?_
  refine CW.condD rfl (fun h => absurd h (by unfold shE; rw [if_pos hrb]; decide)) (fun h_t18 => ?_)
  refine CW.skip ?_
  refine QE.next ?_
  refine CW.seq ?_
  have hlc0 := hlc 0
  refine ST.told 5 rfl (is_eq (y := ((a.getD 0 []).length : Int)) (by unfold shM; rw [if_pos hrb])) ?_
  refine CW.region ?_
  refine WP.s .n (O.asg rfl) ?_
  refine WP.nil ?_
  refine QE.next ?_
  refine CW.seq ?_
  refine CW.seq ?_
  refine CW.region ?_
  refine WP.s .n (O.asg rfl) ?_
  refine WP.nil ?_
  refine QE.next ?_
  refine CW.block ?_
  refine ST.nilrow 27 (kSl kC) ?_
  refine CW.loop2 (fun (k : Nat) (v : Value) => k ≤ (a.getD 0 []).length) (fun (k : Nat) (v : Value) => [(0, (kSl (kSl kZ)).is a), (5, (kInt .i64).is ((a.getD 0 []).length : Int)), (7, VP.ex v), (8, (kInt .i64).is (k : Int))]) (fun (k : Nat) (v : Value) => [OB.row v 27 (kSl kC) ((List.range k).map (turnR a))]) (fun (k : Nat) (v : Value) => (a.getD 0 []).length - k) 0 (.slice none 0 0) (by omega) (Imp.cons rfl (Imp.cons rfl (Imp.cons rfl (Imp.consLe rfl (is_eq (y := (0 : Int)) (by first | rfl | omega | assumption)) Imp.nil)))) (OImp.os (OS.keepLe (OB.row_eq (by first | rfl | omega | assumption)) OS.nil)) ?_
  intro k v hk
  refine CW.seq ?_
  refine CW.seq ?_
  refine CW.region ?_
  refine WP.s .n (O.mv rfl) ?_
  refine WP.s .n (O.mv rfl) ?_
  refine WP.s .n (O.lt rfl rfl) ?_
  refine WP.nil ?_
  refine QE.next ?_
  refine CW.condD rfl (fun h_t21 => ?_) (fun h_t21 => ?_)
  · refine CW.skip ?_
    refine QE.next ?_
    refine CW.seq ?_
    refine CW.block ?_
    refine CW.seq ?_
    refine CW.region ?_
    refine WP.s .n (O.asg rfl) ?_
    refine WP.nil ?_
    refine QE.next ?_
    refine CW.seq ?_
    refine CW.seq ?_
    refine CW.region ?_
    refine WP.s .n (O.asg rfl) ?_
    refine WP.nil ?_
    refine QE.next ?_
    refine CW.block ?_
    refine ST.nilrow 31 kC ?_
    refine CW.loop2 (fun (i : Nat) (u : Value) => i ≤ a.length) (fun (i : Nat) (u : Value) => [(0, (kSl (kSl kZ)).is a), (5, (kInt .i64).is ((a.getD 0 []).length : Int)), (7, VP.ex v), (8, (kInt .i64).is (k : Int)), (9, VP.ex u), (10, (kInt .i64).is (i : Int))]) (fun (i : Nat) (u : Value) => [OB.row u 31 kC ((List.range i).map (fun x => matF a x k)), OB.row v 27 (kSl kC) ((List.range k).map (turnR a))]) (fun (i : Nat) (u : Value) => a.length - i) 0 (.slice none 0 0) (by omega) (Imp.cons rfl (Imp.cons rfl (Imp.cons rfl (Imp.cons rfl (Imp.cons rfl (Imp.consLe rfl (is_eq (y := (0 : Int)) (by first | rfl | omega | assumption)) Imp.nil)))))) (OImp.os (OS.keepLe (OB.row_eq (by first | rfl | omega | assumption)) (OS.keep OS.nil))) ?_
    intro i u hi
    refine CW.seq ?_
    refine CW.seq ?_
    refine CW.region ?_
    refine WP.s .n (O.mv rfl) ?_
    refine WP.s .n (O.mv rfl) ?_
    refine WP.s .n (O.lenS rfl Try.underlying67) ?_
    refine WP.s .n (O.lt rfl rfl) ?_
    refine WP.nil ?_
    refine QE.next ?_
    refine CW.condD rfl (fun h_t27 => ?_) (fun h_t27 => ?_)
    · refine CW.skip ?_
      refine QE.next ?_
      refine CW.seq ?_
      refine CW.block ?_
      refine CW.region ?_
      refine WP.s .n (O.mv rfl) ?_
      refine WP.s .n (O.mv rfl) ?_
      refine WP.s .n (O.mv rfl) ?_
      refine WP.s .n (O.ix i rfl rfl Try.underlying67 ty27 rfl (v := (a.getD i [])) (gd [] (by first | omega | (have := hr i (by omega); omega)))) ?_
      refine WP.s .n (O.ldP rfl ty27) ?_
      refine WP.s .n (O.mv rfl) ?_
      refine WP.s .n (O.ix k rfl rfl Try.underlying27 ty31 rfl (v := ((a.getD i []).getD k 0)) (gd 0 (by first | omega | (have := hr i (by omega); omega)))) ?_
      refine WP.s .n (O.ldP rfl ty31) ?_
      refine WP.s .n (O.fn fn92 (evs.c rfl evs.nil) (c_ref02_Norm ((a.getD i []).getD k 0))) ?_
      refine WP.s .n (O.bs Try.underlying27 el31_C (evl.c rfl evl.n) rfl (by decide)) ?_
      refine WP.ap 0 .n rfl rfl rfl (VP.le_refl _) Try.underlying27 el31_C (by (simp only [List.length_cons, List.length_nil, List.length_map, List.length_range]; omega)) fun v1 => ?_
      refine WP.s .n (O.asg rfl) ?_
      refine WP.nil ?_
      refine QE.blkN ?_
      refine QE.next ?_
      refine CW.region ?_
      refine WP.s .n (O.mv rfl) ?_
      refine WP.s .n (O.add rfl rfl (c := ((i : Int) + 1)) (w64 (by omega))) ?_
      refine WP.s .n (O.asg rfl) ?_
      refine WP.nil ?_
      refine ST.obtold 0 rfl (OB.row_eq (ys := ((List.range (i + 1)).map (fun x => matF a x k))) (range_app (fun x => matF a x k) i)) ?_
      exact QE.round2 (i + 1) v1 (by omega) (by omega) (Imp.cons rfl (Imp.cons rfl (Imp.cons rfl (Imp.cons rfl (Imp.cons rfl (Imp.consLe rfl (is_eq (y := (((i + 1) : Nat) : Int)) (by first | rfl | omega | assumption)) Imp.nil)))))) (OImp.refl _)
    · refine CW.exit ?_
      refine QE.thenE ?_
      refine QE.thenE ?_
      refine QE.blkH ?_
      refine QE.next ?_
      refine ST.obtold 0 rfl (OB.row_eq (ys := (turnR a k)) (by rw [show i = a.length by omega]; rfl)) ?_
      refine ST.freeze 0 rfl (.keep (i := 0) rfl (.keep (i := 5) rfl (.keep (i := 7) rfl (.keep (i := 8) rfl (.hit (i := 9) rfl (.keep (i := 10) rfl (.keep (i := 24) rfl (.keep (i := 25) rfl (.keep (i := 26) rfl (.keep (i := 27) rfl .nil)))))))))) ?_
      refine CW.region ?_
      refine WP.s .n (O.mv rfl) ?_
      refine WP.s .n (O.mv rfl) ?_
      refine WP.s .n (O.bs Try.underlying67 el27_sl_C (evl.c rfl evl.n) rfl (by decide)) ?_
      refine WP.ap 0 .n rfl rfl rfl (VP.le_refl _) Try.underlying67 el27_sl_C (by (simp only [List.length_cons, List.length_nil, List.length_map, List.length_range]; omega)) fun v2 => ?_
      refine WP.s .n (O.asg rfl) ?_
      refine WP.nil ?_
      refine QE.blkN ?_
      refine QE.next ?_
      refine CW.region ?_
      refine WP.s .n (O.mv rfl) ?_
      refine WP.s .n (O.add rfl rfl (c := ((k : Int) + 1)) (w64 (by omega))) ?_
      refine WP.s .n (O.asg rfl) ?_
      refine WP.nil ?_
      refine ST.obtold 0 rfl (OB.row_eq (ys := ((List.range (k + 1)).map (turnR a))) (range_app (turnR a) k)) ?_
      exact QE.round2 (k + 1) v2 (by omega) (by omega) (Imp.cons rfl (Imp.cons rfl (Imp.cons rfl (Imp.consLe rfl (is_eq (y := (((k + 1) : Nat) : Int)) (by first | rfl | omega | assumption)) Imp.nil)))) (OImp.refl _)
  · refine CW.exit ?_
    refine QE.thenE ?_
    refine QE.thenE ?_
    refine QE.blkH ?_
    refine QE.next ?_
    refine CW.seq ?_
    refine CW.region ?_
    refine WP.s .n (O.mv rfl) ?_
    refine WP.s .n (O.asg rfl) ?_
    refine WP.s .n (O.asg rfl) ?_
    refine WP.nil ?_
    refine QE.next ?_
    refine CW.ret ?_
    refine ST.freeze 0 rfl (.keep (i := 0) rfl (.hit (i := 2) rfl (.keep (i := 3) rfl (.keep (i := 5) rfl (.hit (i := 7) rfl (.keep (i := 8) rfl (.keep (i := 19) rfl (.keep (i := 20) rfl (.keep (i := 21) rfl (.hit (i := 45) rfl .nil)))))))))) ?_
    refine ST.told 2 rfl (is_eq (y := (turnV a)) (by rw [show k = (a.getD 0 []).length by omega]; rfl)) ?_
    exact QE.done (.inl rfl) rfl (ResOk.t rfl (ResOk.t rfl ResOk.nil)) (OImp.sub (List.nil_sublist _)) ⟨rfl, rfl⟩

set_option maxRecDepth 20000 in
set_option maxHeartbeats 1000000 in
theorem c_ref04_Same (n : Nat) (a b : List (List Int)) (ha : SzM n a) (hb : SzM n b) (hn : n + n + 1 ≤ 549755813888) : Fn Try.prog 110 [(kSl (kSl kZ)).is a, (kSl (kSl kZ)).is b] (kBool.is (decide (a = b))) := by
  refine Con.enter Try.func110 rfl rfl fun m w => ?_
  refine ST.fact (i := 0) rfl sl_len fun hB => ?_
  refine CW.seq ?_
  refine CW.region ?_
  refine WP.s .n (O.asg rfl) ?_
  refine WP.nil ?_
  refine QE.next ?_
  refine CW.seq ?_
  refine CW.seq ?_
  refine CW.region ?_
  refine WP.s .n (O.mv rfl) ?_
  refine WP.s .n (O.lenS rfl Try.underlying67) ?_
  refine WP.s .n (O.mv rfl) ?_
  refine WP.s .n (O.lenS rfl Try.underlying67) ?_
  refine WP.s .n (O.ne rfl rfl) ?_
  refine WP.nil ?_
  refine QE.next ?_
  refine CW.condD rfl (fun h_t10 => ?_) (fun h_t10 => ?_)
  · refine CW.seq ?_
    refine CW.region ?_
    refine WP.s .n (O.asg rfl) ?_
    refine WP.nil ?_
    refine QE.next ?_
    refine CW.ret ?_
    refine QE.thenR ?_
    refine ST.told 4 rfl (is_eq (y := (decide (a = b))) (by rw [eq_comm, decide_eq_false_iff_not]; intro e; exact h_t10 (by rw [e]))) ?_
    exact QE.done (.inl rfl) rfl (ResOk.t rfl ResOk.nil) (OImp.sub (List.nil_sublist _)) ⟨rfl, rfl⟩
  · refine CW.skip ?_
    refine QE.next ?_
    refine CW.seq ?_
    refine CW.seq ?_
    refine CW.region ?_
    refine WP.s .n (O.asg rfl) ?_
    refine WP.nil ?_
    refine QE.next ?_
    refine CW.block ?_
    refine CW.loop (fun (i : Nat) => i ≤ a.length ∧ a.take i = b.take i) (fun (i : Nat) => [(0, (kSl (kSl kZ)).is a), (1, (kSl (kSl kZ)).is b), (5, (kInt .i64).is (i : Int))]) (fun (i : Nat) => []) (fun (i : Nat) => a.length - i) 0 ⟨Nat.zero_le _, rfl⟩ (Imp.cons rfl (Imp.cons rfl (Imp.consLe rfl (is_eq (y := (0 : Int)) (by first | rfl | omega | assumption)) Imp.nil))) (OImp.refl _) ?_
    intro i ⟨hi, ht⟩
    refine CW.seq ?_
    refine CW.seq ?_
    refine CW.region ?_
    refine WP.s .n (O.mv rfl) ?_
    refine WP.s .n (O.mv rfl) ?_
    refine WP.s .n (O.lenS rfl Try.underlying67) ?_
    refine WP.s .n (O.lt rfl rfl) ?_
    refine WP.nil ?_
    refine QE.next ?_
    refine CW.condD rfl (fun h_t14 => ?_) (fun h_t14 => ?_)
    · refine CW.skip ?_
      refine QE.next ?_
      refine CW.seq ?_
      refine CW.block ?_
      refine CW.seq ?_
      refine CW.draw (Γ := [.fr ((kSl (kSl kZ)).is a), .fr ((kInt .i64).is (i : Int)), .fr (VP.pim (kSl kZ) (a.getD i [])), .fr ((kSl kZ).is (a.getD i [])), .fr ((kSl (kSl kZ)).is b), .fr ((kInt .i64).is (i : Int)), .fr (VP.pim (kSl kZ) (b.getD i [])), .fr ((kSl kZ).is (b.getD i [])), .fr ((kInt .i64).is (ordV (a.getD i []) (b.getD i []))), .fr (kBool.is (decide ((ordV (a.getD i []) (b.getD i [])) ≠ 0)))]) (lates := [false, false, false, false, false, false, false, false, false, false]) (by kernel_rfl) (Chk.of rfl (by kernel_rfl) rfl) (fun _ _ _ _ _ h => h) (fun q_ x_ h_ => ?_) (fun σ1 => ?_)
      · match q_, h_ with
        | 0, h_ => cases h_; exact Ob.f rfl .n fun N => (O.mv rfl)
        | 1, h_ => cases h_; exact Ob.f rfl .n fun N => (O.mv rfl)
        | 2, h_ => cases h_; exact Ob.f rfl .n fun N => (O.ix i rfl rfl Try.underlying67 ty27 rfl (v := (a.getD i [])) (gd [] (by omega)))
        | 3, h_ => cases h_; exact Ob.f rfl .n fun N => (O.ldP rfl ty27)
        | 4, h_ => cases h_; exact Ob.f rfl .n fun N => (O.mv rfl)
        | 5, h_ => cases h_; exact Ob.f rfl .n fun N => (O.mv rfl)
        | 6, h_ => cases h_; exact Ob.f rfl .n fun N => (O.ix i rfl rfl Try.underlying67 ty27 rfl (v := (b.getD i [])) (gd [] (by omega)))
        | 7, h_ => cases h_; exact Ob.f rfl .n fun N => (O.ldP rfl ty27)
        | 8, h_ => cases h_; exact Ob.f rfl .n fun N => (O.fn fn123 (evs.c rfl (evs.c rfl evs.nil)) (c_ref04_Order n (a.getD i []) (b.getD i []) (ha i) (hb i) hn))
        | 9, h_ => cases h_; exact Ob.f rfl .n fun N => (O.ne rfl rfl)
        | n_ + 10, h_ => simp at h_
      refine WP.nil ?_
      refine QE.next ?_
      refine CW.condD rfl (fun h_t26 => ?_) (fun h_t26 => ?_)
      · refine CW.seq ?_
        refine CW.region ?_
        refine WP.s .n (O.asg rfl) ?_
        refine WP.nil ?_
        refine QE.next ?_
        refine CW.ret ?_
        refine QE.blkR ?_
        refine QE.thenR ?_
        refine QE.thenR ?_
        refine QE.blkR ?_
        refine QE.thenR ?_
        refine ST.told 4 rfl (is_eq (y := (decide (a = b))) (by rw [eq_comm, decide_eq_false_iff_not]; intro e; exact h_t26 (ordV_zero.2 (by rw [e])))) ?_
        exact QE.done (.inl rfl) rfl (ResOk.t rfl ResOk.nil) (OImp.sub (List.nil_sublist _)) ⟨rfl, rfl⟩
      · refine CW.skip ?_
        refine QE.blkN ?_
        refine QE.next ?_
        refine CW.region ?_
        refine WP.s .n (O.mv rfl) ?_
        refine WP.s .n (O.add rfl rfl (c := ((i : Int) + 1)) (w64 (by omega))) ?_
        refine WP.s .n (O.asg rfl) ?_
        refine WP.nil ?_
        exact QE.round (i + 1) (by omega) ⟨by omega, eq_take (d := []) (by omega) (by omega) ht (ordV_zero.1 (Classical.byContradiction fun h => h_t26 h))⟩ (Imp.cons rfl (Imp.cons rfl (Imp.consLe rfl (is_eq (y := (((i + 1) : Nat) : Int)) (by first | rfl | omega | assumption)) Imp.nil))) (OImp.refl _)
    · refine CW.exit ?_
      refine QE.thenE ?_
      refine QE.thenE ?_
      refine QE.blkH ?_
      refine QE.next ?_
      refine CW.seq ?_
      refine CW.region ?_
      refine WP.s .n (O.asg rfl) ?_
      refine WP.nil ?_
      refine QE.next ?_
      refine CW.ret ?_
      refine ST.told 4 rfl (is_eq (y := (decide (a = b))) (by rw [eq_comm, decide_eq_true_iff]; exact eq_full (i := i) (by omega) (by omega) ht)) ?_
      exact QE.done (.inl rfl) rfl (ResOk.t rfl ResOk.nil) (OImp.sub (List.nil_sublist _)) ⟨rfl, rfl⟩

end Fw


/- Bits, density and the rows of a sum; the statement KnapWeights. -/
set_option linter.unusedVariables false
set_option linter.unusedSimpArgs false
set_option exponentiation.threshold 400
namespace Fw
open Go Go.Proofs

set_option maxRecDepth 20000 in
set_option maxHeartbeats 1000000 in
theorem c_ref04_Bits (b : List (List Int)) : Fn Try.prog 98 [(kSl (kSl kZ)).is b] ((kInt .i64).is (mbits b)) := by
  refine Con.enter Try.func98 rfl rfl fun m w => ?_
  refine ST.fact (i := 0) rfl sl_len fun hB => ?_
  refine CW.seq ?_
  refine CW.region ?_
  refine WP.s .n (O.asg rfl) ?_
  refine WP.nil ?_
  refine QE.next ?_
  refine CW.seq ?_
  refine CW.region ?_
  refine WP.s .n (O.asg rfl) ?_
  refine WP.nil ?_
  refine QE.next ?_
  refine CW.seq ?_
  refine CW.seq ?_
  refine CW.region ?_
  refine WP.s .n (O.asg rfl) ?_
  refine WP.nil ?_
  refine QE.next ?_
  refine CW.block ?_
  refine CW.loop (fun (i : Nat) => i ≤ b.length) (fun (i : Nat) => [(0, (kSl (kSl kZ)).is b), (3, (kInt .i64).is ((b.take i).foldl vbN 0)), (4, (kInt .i64).is (i : Int))]) (fun (i : Nat) => []) (fun (i : Nat) => b.length - i) 0 (by omega) (Imp.cons rfl (Imp.consLe rfl (is_eq (y := ((b.take 0).foldl vbN 0)) (by first | omega | rfl | assumption | simp)) (Imp.consLe rfl (is_eq (y := (0 : Int)) (by first | omega | rfl | assumption | simp)) Imp.nil))) (OImp.refl _) ?_
  intro i hi
  refine CW.seq ?_
  refine CW.seq ?_
  refine CW.region ?_
  refine WP.s .n (O.mv rfl) ?_
  refine WP.s .n (O.mv rfl) ?_
  refine WP.s .n (O.lenS rfl Try.underlying67) ?_
  refine WP.s .n (O.lt rfl rfl) ?_
  refine WP.nil ?_
  refine QE.next ?_
  refine CW.condD rfl (fun h_t9 => ?_) (fun h_t9 => ?_)
  · refine CW.skip ?_
    refine QE.next ?_
    refine CW.seq ?_
    refine CW.block ?_
    refine CW.seq ?_
    refine CW.region ?_
    refine WP.s .n (O.asg rfl) ?_
    refine WP.nil ?_
    refine QE.next ?_
    refine CW.block ?_
    refine CW.loop (fun (k : Nat) => k ≤ (b.getD i []).length) (fun (k : Nat) => [(0, (kSl (kSl kZ)).is b), (3, (kInt .i64).is (vbN ((b.take i).foldl vbN 0) ((b.getD i []).take k))), (4, (kInt .i64).is (i : Int)), (5, (kInt .i64).is (k : Int))]) (fun (k : Nat) => []) (fun (k : Nat) => (b.getD i []).length - k) 0 (by omega) (Imp.cons rfl (Imp.consLe rfl (is_eq (y := (vbN ((b.take i).foldl vbN 0) ((b.getD i []).take 0))) (by first | omega | rfl | assumption | simp)) (Imp.cons rfl (Imp.consLe rfl (is_eq (y := (0 : Int)) (by first | omega | rfl | assumption | simp)) Imp.nil)))) (OImp.refl _) ?_
    intro k hk
    refine CW.seq ?_
    refine CW.seq ?_
    refine CW.region ?_
    refine WP.s .n (O.mv rfl) ?_
    refine WP.s .n (O.mv rfl) ?_
    refine WP.s .n (O.mv rfl) ?_
    refine WP.s .n (O.ix i rfl rfl Try.underlying67 ty27 rfl (v := (b.getD i [])) (gd [] (by omega))) ?_
    refine WP.s .n (O.ldP rfl ty27) ?_
    refine ST.fact (i := 16) rfl sl_len fun hlk => ?_
    refine WP.s .n (O.lenS rfl Try.underlying27) ?_
    refine WP.s .n (O.lt rfl rfl) ?_
    refine WP.nil ?_
    refine QE.next ?_
    refine CW.condD rfl (fun h_t18 => ?_) (fun h_t18 => ?_)
    · refine CW.skip ?_
      refine QE.next ?_
      refine CW.seq ?_
      refine CW.block ?_
      have hlen : (b.getD i []).length ≤ 1099511627776 := by omega
      refine CW.region ?_
      refine WP.s .n (O.mv rfl) ?_
      refine WP.s .n (O.mv rfl) ?_
      refine WP.s .n (O.mv rfl) ?_
      refine WP.s .n (O.ix i rfl rfl Try.underlying67 ty27 rfl (v := (b.getD i [])) (gd [] (by omega))) ?_
      refine WP.s .n (O.ldP rfl ty27) ?_
      refine WP.s .n (O.mv rfl) ?_
      refine WP.s .n (O.ix k rfl rfl Try.underlying27 ty31 rfl (v := ((b.getD i []).getD k 0)) (gd 0 (by omega))) ?_
      refine WP.s .n (O.ldP rfl ty31) ?_
      refine WP.s .n (O.fn fn95 (evs.c rfl evs.nil) (c_ref02_Bits ((b.getD i []).getD k 0))) ?_
      refine WP.s .n (O.mx rfl rfl) ?_
      refine WP.s .n (O.asg rfl) ?_
      refine WP.nil ?_
      refine QE.blkN ?_
      refine QE.next ?_
      refine CW.region ?_
      refine WP.s .n (O.mv rfl) ?_
      refine WP.s .n (O.add rfl rfl (c := ((k : Int) + 1)) (w64 (by omega))) ?_
      refine WP.s .n (O.asg rfl) ?_
      refine WP.nil ?_
      refine ST.told 3 rfl (is_eq (y := (vbN ((b.take i).foldl vbN 0) ((b.getD i []).take (k + 1)))) (vbN_s (by omega))) ?_
      exact QE.round (k + 1) (by omega) (by omega) (Imp.cons rfl (Imp.cons rfl (Imp.cons rfl (Imp.consLe rfl (is_eq (y := (((k + 1) : Nat) : Int)) (by first | omega | rfl | assumption | simp)) Imp.nil)))) (OImp.refl _)
    · refine CW.exit ?_
      refine QE.thenE ?_
      refine QE.thenE ?_
      refine QE.blkH ?_
      refine QE.blkN ?_
      refine QE.next ?_
      refine CW.region ?_
      refine WP.s .n (O.mv rfl) ?_
      refine WP.s .n (O.add rfl rfl (c := ((i : Int) + 1)) (w64 (by omega))) ?_
      refine WP.s .n (O.asg rfl) ?_
      refine WP.nil ?_
      refine ST.told 3 rfl (is_eq (y := ((b.take (i + 1)).foldl vbN 0)) (mb_done (by omega) (by omega))) ?_
      exact QE.round (i + 1) (by omega) (by omega) (Imp.cons rfl (Imp.cons rfl (Imp.consLe rfl (is_eq (y := (((i + 1) : Nat) : Int)) (by first | omega | rfl | assumption | simp)) Imp.nil))) (OImp.refl _)
  · refine CW.exit ?_
    refine QE.thenE ?_
    refine QE.thenE ?_
    refine QE.blkH ?_
    refine QE.next ?_
    refine CW.seq ?_
    refine CW.region ?_
    refine WP.s .n (O.mv rfl) ?_
    refine WP.s .n (O.asg rfl) ?_
    refine WP.nil ?_
    refine QE.next ?_
    refine CW.ret ?_
    refine ST.told 2 rfl (is_eq (y := (mbits b)) (by rw [List.take_of_length_le (by omega)]; rfl)) ?_
    exact QE.done (.inl rfl) rfl (ResOk.t rfl ResOk.nil) (OImp.sub (List.nil_sublist _)) ⟨rfl, rfl⟩

end Fw


/- The document on forms; QuadValues. -/
set_option linter.unusedVariables false
set_option linter.unusedSimpArgs false
set_option exponentiation.threshold 400
namespace Fw
open Go Go.Proofs

set_option maxRecDepth 20000 in
set_option maxHeartbeats 1000000 in
theorem c_ref22_Valid (a : List (List Int)) : Fn Try.prog 50 [(kSl (kSl kZ)).is a] ((kInt .i64).is (quadE a)) := by
  refine Con.enter Try.func50 rfl rfl fun m w => ?_
  refine ST.fact (i := 0) rfl sl_len fun hB => ?_
  refine ST.fact (i := 0) rfl slsl_len fun hlc => ?_
  refine CW.seq ?_
  refine CW.region ?_
  refine WP.s .n (O.asg rfl) ?_
  refine WP.nil ?_
  refine QE.next ?_
  refine CW.cut (fun (_u : Unit) => True) (fun (_u : Unit) => [(0, (kSl (kSl kZ)).is a), (3, kBool.is (bigN a true 0))]) (fun (_u : Unit) => []) ?_ ?_
  · refine CW.region ?_
    refine WP.s .n (O.mv rfl) ?_
    refine WP.s .n (O.lenS rfl Try.underlying67) ?_
    refine WP.s .n (O.gt rfl rfl) ?_
    refine WP.s .n (O.mv rfl) ?_
    refine WP.splitD 14 rfl (fun h_t14 => ?_) (fun h_t14 => ?_)
    · refine WP.ku (b := true) rfl rfl ?_
      refine WP.ku (b := true) rfl rfl ?_
      refine WP.ku (b := true) rfl rfl ?_
      refine WP.s .n (O.pickT rfl rfl) ?_
      refine WP.s .n (O.asg rfl) ?_
      refine WP.nil ?_
      refine ST.told 3 rfl (is_eq (y := (bigN a true 0)) (bigN_T h_t14)) ?_
      exact QE.mid () trivial (Imp.cons rfl (Imp.cons rfl Imp.nil)) (OImp.refl _)
    · refine WP.s (.g rfl rfl) (O.mv rfl) ?_
      refine WP.s (.g rfl rfl) (O.fn fn98 (evs.c rfl evs.nil) (c_ref04_Bits a)) ?_
      refine WP.s (.g rfl rfl) (O.gt rfl rfl) ?_
      refine WP.s .n (O.pickF rfl rfl) ?_
      refine WP.s .n (O.asg rfl) ?_
      refine WP.nil ?_
      refine ST.told 3 rfl (is_eq (y := (bigN a true 0)) (bigN_bT h_t14)) ?_
      exact QE.mid () trivial (Imp.cons rfl (Imp.cons rfl Imp.nil)) (OImp.refl _)
  intro _u hR
  refine CW.seq ?_
  refine CW.region ?_
  refine WP.s .n (O.asg rfl) ?_
  refine WP.nil ?_
  refine QE.next ?_
  refine CW.seq ?_
  refine CW.seq ?_
  refine CW.region ?_
  refine WP.s .n (O.asg rfl) ?_
  refine WP.nil ?_
  refine QE.next ?_
  refine CW.block ?_
  refine ST.told 4 rfl (is_eq (y := (sqN a 0)) rfl) ?_
  refine CW.loop (fun (i : Nat) => i ≤ a.length) (fun (i : Nat) => [(0, (kSl (kSl kZ)).is a), (3, kBool.is (bigN a true i)), (4, kBool.is (sqN a i)), (5, (kInt .i64).is (i : Int))]) (fun (i : Nat) => []) (fun (i : Nat) => a.length - i) 0 (by omega) (Imp.cons rfl (Imp.cons rfl (Imp.cons rfl (Imp.consLe rfl (is_eq (y := (0 : Int)) (by first | rfl | omega | assumption)) Imp.nil)))) (OImp.refl _) ?_
  intro i hi
  refine CW.seq ?_
  refine CW.seq ?_
  refine CW.region ?_
  refine WP.s .n (O.mv rfl) ?_
  refine WP.s .n (O.mv rfl) ?_
  refine WP.s .n (O.lenS rfl Try.underlying67) ?_
  refine WP.s .n (O.lt rfl rfl) ?_
  refine WP.nil ?_
  refine QE.next ?_
  refine CW.condD rfl (fun h_t22 => ?_) (fun h_t22 => ?_)
  · refine CW.skip ?_
    refine QE.next ?_
    refine CW.seq ?_
    refine CW.block ?_
    refine CW.seq ?_
    refine CW.region ?_
    refine WP.s .n (O.mv rfl) ?_
    refine WP.s .n (O.mv rfl) ?_
    refine WP.split 26 rfl (fun h_t26 => ?_) (fun h_t26 => ?_)
    · refine WP.ku (b := true) rfl rfl ?_
      refine WP.ku (b := true) rfl rfl ?_
      refine WP.ku (b := true) rfl rfl ?_
      refine WP.ku (b := true) rfl rfl ?_
      refine WP.ku (b := true) rfl rfl ?_
      refine WP.ku (b := true) rfl rfl ?_
      refine WP.s .n (O.pickT rfl rfl) ?_
      refine WP.s .n (O.asg rfl) ?_
      refine WP.nil ?_
      refine QE.next ?_
      refine CW.region ?_
      refine WP.s .n (O.mv rfl) ?_
      refine WP.s .n (O.mv rfl) ?_
      refine WP.split 35 rfl (fun h_t35 => ?_) (fun h_t35 => ?_)
      · refine WP.s (.g rfl rfl) (O.mv rfl) ?_
        refine WP.s (.g rfl rfl) (O.mv rfl) ?_
        refine WP.s (.g rfl rfl) (O.ix i rfl rfl Try.underlying67 ty27 rfl (v := (a.getD i [])) (gd [] (by omega))) ?_
        refine WP.s (.g rfl rfl) (O.ldP rfl ty27) ?_
        refine WP.s (.g rfl rfl) (O.lenS rfl Try.underlying27) ?_
        refine WP.s (.g rfl rfl) (O.mv rfl) ?_
        refine WP.s (.g rfl rfl) (O.lenS rfl Try.underlying67) ?_
        refine WP.s (.g rfl rfl) (O.eq rfl rfl) ?_
        refine WP.s .n (O.pickT rfl rfl) ?_
        refine WP.s .n (O.asg rfl) ?_
        refine WP.nil ?_
        refine QE.blkN ?_
        refine QE.next ?_
        refine CW.region ?_
        refine WP.s .n (O.mv rfl) ?_
        refine WP.s .n (O.add rfl rfl (c := ((i : Int) + 1)) (w64 (by omega))) ?_
        refine WP.s .n (O.asg rfl) ?_
        refine WP.nil ?_
        refine ST.told 3 rfl (is_eq (y := (bigN a true (i + 1))) (by rw [bigN_succ (by omega)]; simp [h_t26])) ?_
        refine ST.told 4 rfl (is_eq (y := (sqN a (i + 1))) (by rw [sqN_succ (by omega)]; simp [h_t35])) ?_
        exact QE.round (i + 1) (by omega) (by omega) (Imp.cons rfl (Imp.cons rfl (Imp.cons rfl (Imp.consLe rfl (is_eq (y := (((i + 1) : Nat) : Int)) (by first | rfl | omega | assumption)) Imp.nil)))) (OImp.refl _)
      · refine WP.ku (b := false) rfl rfl ?_
        refine WP.ku (b := false) rfl rfl ?_
        refine WP.ku (b := false) rfl rfl ?_
        refine WP.ku (b := false) rfl rfl ?_
        refine WP.ku (b := false) rfl rfl ?_
        refine WP.ku (b := false) rfl rfl ?_
        refine WP.ku (b := false) rfl rfl ?_
        refine WP.ku (b := false) rfl rfl ?_
        refine WP.s .n (O.pickF rfl rfl) ?_
        refine WP.s .n (O.asg rfl) ?_
        refine WP.nil ?_
        refine QE.blkN ?_
        refine QE.next ?_
        refine CW.region ?_
        refine WP.s .n (O.mv rfl) ?_
        refine WP.s .n (O.add rfl rfl (c := ((i : Int) + 1)) (w64 (by omega))) ?_
        refine WP.s .n (O.asg rfl) ?_
        refine WP.nil ?_
        refine ST.told 3 rfl (is_eq (y := (bigN a true (i + 1))) (by rw [bigN_succ (by omega)]; simp [h_t26])) ?_
        refine ST.told 4 rfl (is_eq (y := (sqN a (i + 1))) (by rw [sqN_succ (by omega)]; simp [h_t35])) ?_
        exact QE.round (i + 1) (by omega) (by omega) (Imp.cons rfl (Imp.cons rfl (Imp.cons rfl (Imp.consLe rfl (is_eq (y := (((i + 1) : Nat) : Int)) (by first | rfl | omega | assumption)) Imp.nil)))) (OImp.refl _)
    · refine WP.s (.g rfl rfl) (O.mv rfl) ?_
      refine WP.s (.g rfl rfl) (O.mv rfl) ?_
      refine WP.s (.g rfl rfl) (O.ix i rfl rfl Try.underlying67 ty27 rfl (v := (a.getD i [])) (gd [] (by omega))) ?_
      refine WP.s (.g rfl rfl) (O.ldP rfl ty27) ?_
      refine WP.s (.g rfl rfl) (O.lenS rfl Try.underlying27) ?_
      refine WP.s (.g rfl rfl) (O.gt rfl rfl) ?_
      refine WP.s .n (O.pickF rfl rfl) ?_
      refine WP.s .n (O.asg rfl) ?_
      refine WP.nil ?_
      refine QE.next ?_
      refine CW.region ?_
      refine WP.s .n (O.mv rfl) ?_
      refine WP.s .n (O.mv rfl) ?_
      refine WP.split 35 rfl (fun h_t35 => ?_) (fun h_t35 => ?_)
      · refine WP.s (.g rfl rfl) (O.mv rfl) ?_
        refine WP.s (.g rfl rfl) (O.mv rfl) ?_
        refine WP.s (.g rfl rfl) (O.ix i rfl rfl Try.underlying67 ty27 rfl (v := (a.getD i [])) (gd [] (by omega))) ?_
        refine WP.s (.g rfl rfl) (O.ldP rfl ty27) ?_
        refine WP.s (.g rfl rfl) (O.lenS rfl Try.underlying27) ?_
        refine WP.s (.g rfl rfl) (O.mv rfl) ?_
        refine WP.s (.g rfl rfl) (O.lenS rfl Try.underlying67) ?_
        refine WP.s (.g rfl rfl) (O.eq rfl rfl) ?_
        refine WP.s .n (O.pickT rfl rfl) ?_
        refine WP.s .n (O.asg rfl) ?_
        refine WP.nil ?_
        refine QE.blkN ?_
        refine QE.next ?_
        refine CW.region ?_
        refine WP.s .n (O.mv rfl) ?_
        refine WP.s .n (O.add rfl rfl (c := ((i : Int) + 1)) (w64 (by omega))) ?_
        refine WP.s .n (O.asg rfl) ?_
        refine WP.nil ?_
        refine ST.told 3 rfl (is_eq (y := (bigN a true (i + 1))) (by rw [bigN_succ (by omega)]; simp [h_t26])) ?_
        refine ST.told 4 rfl (is_eq (y := (sqN a (i + 1))) (by rw [sqN_succ (by omega)]; simp [h_t35])) ?_
        exact QE.round (i + 1) (by omega) (by omega) (Imp.cons rfl (Imp.cons rfl (Imp.cons rfl (Imp.consLe rfl (is_eq (y := (((i + 1) : Nat) : Int)) (by first | rfl | omega | assumption)) Imp.nil)))) (OImp.refl _)
      · refine WP.ku (b := false) rfl rfl ?_
        refine WP.ku (b := false) rfl rfl ?_
        refine WP.ku (b := false) rfl rfl ?_
        refine WP.ku (b := false) rfl rfl ?_
        refine WP.ku (b := false) rfl rfl ?_
        refine WP.ku (b := false) rfl rfl ?_
        refine WP.ku (b := false) rfl rfl ?_
        refine WP.ku (b := false) rfl rfl ?_
        refine WP.s .n (O.pickF rfl rfl) ?_
        refine WP.s .n (O.asg rfl) ?_
        refine WP.nil ?_
        refine QE.blkN ?_
        refine QE.next ?_
        refine CW.region ?_
        refine WP.s .n (O.mv rfl) ?_
        refine WP.s .n (O.add rfl rfl (c := ((i : Int) + 1)) (w64 (by omega))) ?_
        refine WP.s .n (O.asg rfl) ?_
        refine WP.nil ?_
        refine ST.told 3 rfl (is_eq (y := (bigN a true (i + 1))) (by rw [bigN_succ (by omega)]; simp [h_t26])) ?_
        refine ST.told 4 rfl (is_eq (y := (sqN a (i + 1))) (by rw [sqN_succ (by omega)]; simp [h_t35])) ?_
        exact QE.round (i + 1) (by omega) (by omega) (Imp.cons rfl (Imp.cons rfl (Imp.cons rfl (Imp.consLe rfl (is_eq (y := (((i + 1) : Nat) : Int)) (by first | rfl | omega | assumption)) Imp.nil)))) (OImp.refl _)
  · refine CW.exit ?_
    refine QE.thenE ?_
    refine QE.thenE ?_
    refine QE.blkH ?_
    refine QE.next ?_
    refine CW.seq ?_
    refine CW.block ?_
    refine CW.seq ?_
    refine ST.told 3 rfl (is_eq (y := (bigN a true a.length)) (by rw [show i = a.length by omega])) ?_
    refine ST.told 4 rfl (is_eq (y := (sqN a a.length)) (by rw [show i = a.length by omega])) ?_
    refine CW.region ?_
    refine WP.s .n (O.mv rfl) ?_
    refine WP.s .n (O.asg rfl) ?_
    refine WP.nil ?_
    refine QE.next ?_
    refine CW.cond rfl (fun h_t45 => ?_) (fun h_t45 => ?_)
    · refine CW.seq ?_
      refine CW.region ?_
      refine WP.s .n (O.asg rfl) ?_
      refine WP.nil ?_
      refine QE.next ?_
      refine CW.ret ?_
      refine QE.blkR ?_
      refine QE.thenR ?_
      refine ST.told 2 rfl (is_eq (y := (quadE a)) (by rw [quadE_1 (by rw [qshape_1 h_t45]; decide), qshape_1 h_t45])) ?_
      exact QE.done (.inl rfl) rfl (ResOk.t rfl ResOk.nil) (OImp.sub (List.nil_sublist _)) ⟨rfl, rfl⟩
    · refine CW.seq ?_
      refine CW.region ?_
      refine WP.s .n (O.mv rfl) ?_
      refine WP.s .n (O.lenS rfl Try.underlying67) ?_
      refine WP.s .n (O.eq rfl rfl) ?_
      refine WP.s .n (O.asg rfl) ?_
      refine WP.nil ?_
      refine QE.next ?_
      refine CW.condD rfl (fun h_t47 => ?_) (fun h_t47 => ?_)
      · refine CW.seq ?_
        refine CW.region ?_
        refine WP.s .n (O.asg rfl) ?_
        refine WP.nil ?_
        refine QE.next ?_
        refine CW.ret ?_
        refine QE.blkR ?_
        refine QE.thenR ?_
        have hb1 : ¬ bigN a true a.length = true := by simp [h_t45]
        refine ST.told 2 rfl (is_eq (y := (quadE a)) (by rw [quadE_1 (by rw [qshape_2 hb1 (by omega)]; decide), qshape_2 hb1 (by omega)])) ?_
        exact QE.done (.inl rfl) rfl (ResOk.t rfl ResOk.nil) (OImp.sub (List.nil_sublist _)) ⟨rfl, rfl⟩
      · refine CW.seq ?_
        refine CW.region ?_
        refine WP.s .n (O.mv rfl) ?_
        refine WP.s .n (O.not rfl) ?_
        refine WP.s .n (O.asg rfl) ?_
        refine WP.nil ?_
        refine QE.next ?_
        refine CW.cond rfl (fun h_t51 => ?_) (fun h_t51 => ?_)
        · refine CW.seq ?_
          refine CW.region ?_
          refine WP.s .n (O.asg rfl) ?_
          refine WP.nil ?_
          refine QE.next ?_
          refine CW.ret ?_
          refine QE.blkR ?_
          refine QE.thenR ?_
          have hb1 : ¬ bigN a true a.length = true := by simp [h_t45]
          have hb3 : ¬ sqN a a.length = true := by simpa using h_t51
          refine ST.told 2 rfl (is_eq (y := (quadE a)) (by rw [quadE_1 (by rw [qshape_3 hb1 (by omega) hb3]; decide), qshape_3 hb1 (by omega) hb3])) ?_
          exact QE.done (.inl rfl) rfl (ResOk.t rfl ResOk.nil) (OImp.sub (List.nil_sublist _)) ⟨rfl, rfl⟩
        · refine CW.skip ?_
          refine QE.blkN ?_
          refine QE.next ?_
          refine CW.seq ?_
          have hb1 : ¬ bigN a true a.length = true := by simp [h_t45]
          have hb3 : sqN a a.length = true := by simpa using h_t51
          obtain ⟨q1, q2, q3⟩ := bigN_no hb1
          have hq := sqN_iff.1 hb3
          have hZ : SzM 256 a := mbits_Sz (q2 rfl)
          have hR1 : RectL a := fun i hi => by rw [hq i hi, hq 0 (by omega)]
          have hRR : RectL a ∧ rect a = true := ⟨hR1, rect_iff.2 hR1⟩
          have hTs := (turnV_Sz hZ).sm (by decide)
          have hS0 := turn_sym hq (by omega)
          refine CW.region ?_
          refine WP.s .n (O.mv rfl) ?_
          refine WP.s .n (O.fn fn109 (evs.c rfl evs.nil) (c_ref04_Turn 256 a hRR.1 hRR.2)) ?_
          refine WP.s .n (O.mv rfl) ?_
          refine WP.s .n (O.ext rfl rfl) ?_
          refine WP.s .n (O.ext rfl rfl) ?_
          refine WP.s .n (O.asg rfl) ?_
          refine WP.s .n (O.asg rfl) ?_
          refine WP.nil ?_
          refine QE.next ?_
          refine CW.seq ?_
          refine CW.seq ?_
          refine CW.region ?_
          refine WP.s .n (O.mv rfl) ?_
          refine WP.s .n (O.mv rfl) ?_
          refine WP.s .n (O.fn fn110 (evs.c rfl (evs.l rfl (slslC_Z (by first | exact hTs | exact (hD.2.1 i).sm (by decide))) evs.nil)) (c_ref04_Same 256 a (turnV a) hZ (turnV_Sz hZ) (by decide))) ?_
          refine WP.s .n (O.not rfl) ?_
          refine WP.nil ?_
          refine QE.next ?_
          refine CW.cond rfl (fun h_t62 => ?_) (fun h_t62 => ?_)
          · refine CW.seq ?_
            refine CW.region ?_
            refine WP.s .n (O.asg rfl) ?_
            refine WP.nil ?_
            refine QE.next ?_
            refine CW.ret ?_
            refine QE.thenR ?_
            have hsy : ¬ symB a = true := fun e => by have := hS0.2 e; simp [← this] at h_t62
            refine ST.told 2 rfl (is_eq (y := (quadE a)) (by rw [quadE_1 (by rw [qshape_4 hb1 (by omega) hb3 hsy]; decide), qshape_4 hb1 (by omega) hb3 hsy])) ?_
            exact QE.done (.inl rfl) rfl (ResOk.t rfl ResOk.nil) (OImp.sub (List.nil_sublist _)) ⟨rfl, rfl⟩
          · refine CW.skip ?_
            refine QE.next ?_
            refine CW.seq ?_
            have hsy : symB a = true := hS0.1 (by simpa using h_t62)
            have hq0 := qshape_5 hb1 (by omega) hb3 hsy
            have hS := sqd_sqm (sqm_of hq0)
            refine CW.region ?_
            refine WP.s .n (O.mv rfl) ?_
            refine WP.call (Li := []) (L := []) .n fn111 (evs.c rfl evs.nil) (c_ref06_Minors a hS) fun p_ Lo_ hp_ => ?_
            obtain ⟨ds, rfl, rfl, hD⟩ := hp_
            refine WP.s .n (O.mv rfl) ?_
            refine WP.s .n (O.ext rfl rfl) ?_
            refine WP.s .n (O.ext rfl rfl) ?_
            refine WP.s .n (O.asg rfl) ?_
            refine WP.s .n (O.asg rfl) ?_
            refine WP.nil ?_
            refine QE.next ?_
            refine CW.seq ?_
            refine CW.seq ?_
            have hdl := hD.1
            refine CW.region ?_
            refine WP.s .n (O.asg rfl) ?_
            refine WP.nil ?_
            refine QE.next ?_
            refine CW.block ?_
            refine CW.loop (fun (i : Nat) => i ≤ a.length ∧ PosU (matF a) i) (fun (i : Nat) => [(0, (kSl (kSl kZ)).is a), (8, (kSl kC).is ds), (10, (kInt .i64).is (i : Int))]) (fun (i : Nat) => []) (fun (i : Nat) => a.length - i) 0 ⟨Nat.zero_le _, fun l hl => absurd hl (by omega)⟩ (Imp.cons rfl (Imp.cons rfl (Imp.consLe rfl (is_eq (y := (0 : Int)) (by first | rfl | omega | assumption)) Imp.nil))) (OImp.refl _) ?_
            intro i ⟨hi, hP⟩
            refine CW.seq ?_
            refine CW.seq ?_
            refine CW.region ?_
            refine WP.s .n (O.mv rfl) ?_
            refine WP.s .n (O.mv rfl) ?_
            refine WP.s .n (O.lenS rfl Try.underlying27) ?_
            refine WP.s .n (O.lt rfl rfl) ?_
            refine WP.nil ?_
            refine QE.next ?_
            refine CW.condD rfl (fun h_t71 => ?_) (fun h_t71 => ?_)
            · refine CW.skip ?_
              refine QE.next ?_
              refine CW.seq ?_
              refine CW.block ?_
              refine CW.seq ?_
              refine CW.region ?_
              refine WP.s .n (O.mv rfl) ?_
              refine WP.s .n (O.mv rfl) ?_
              refine WP.s .n (O.ix i rfl rfl Try.underlying27 ty31 rfl (v := (ds.getD i 0)) (gd 0 (by omega))) ?_
              refine WP.s .n (O.ldP rfl ty31) ?_
              refine WP.s .n (O.fn fn83 (evs.l rfl (kC_Z (by first | exact hTs | exact (hD.2.1 i).sm (by decide))) evs.nil) (c_ref02_Sign (ds.getD i 0))) ?_
              refine WP.s .n (O.le rfl rfl) ?_
              refine WP.nil ?_
              refine QE.next ?_
              refine CW.condD rfl (fun h_t79 => ?_) (fun h_t79 => ?_)
              · refine CW.seq ?_
                refine CW.region ?_
                refine WP.s .n (O.asg rfl) ?_
                refine WP.nil ?_
                refine QE.next ?_
                refine CW.ret ?_
                refine QE.blkR ?_
                refine QE.thenR ?_
                refine QE.thenR ?_
                refine QE.blkR ?_
                refine QE.thenR ?_
                refine ST.told 2 rfl (is_eq (y := (quadE a)) (quadE_no hq0 (i := i) (by omega) (by rw [← hD.2.2 i (by omega) hP]; exact h_t79)).symm) ?_
                exact QE.done (.inl rfl) rfl (ResOk.t rfl ResOk.nil) (OImp.sub (List.nil_sublist _)) ⟨rfl, rfl⟩
              · refine CW.skip ?_
                refine QE.blkN ?_
                refine QE.next ?_
                refine CW.region ?_
                refine WP.s .n (O.mv rfl) ?_
                refine WP.s .n (O.add rfl rfl (c := ((i : Int) + 1)) (w64 (by omega))) ?_
                refine WP.s .n (O.asg rfl) ?_
                refine WP.nil ?_
                exact QE.round (i + 1) (by omega) ⟨by omega, posU_succ hP (by rw [← hD.2.2 i (by omega) hP]; exact h_t79)⟩ (Imp.cons rfl (Imp.cons rfl (Imp.consLe rfl (is_eq (y := (((i + 1) : Nat) : Int)) (by first | rfl | omega | assumption)) Imp.nil))) (OImp.refl _)
            · refine CW.exit ?_
              refine QE.thenE ?_
              refine QE.thenE ?_
              refine QE.blkH ?_
              refine QE.next ?_
              refine CW.seq ?_
              refine CW.region ?_
              refine WP.s .n (O.asg rfl) ?_
              refine WP.nil ?_
              refine QE.next ?_
              refine CW.ret ?_
              refine ST.told 2 rfl (is_eq (y := (quadE a)) (quadE_yes hq0 (by rw [show i = a.length by omega] at hP; exact hP)).symm) ?_
              exact QE.done (.inl rfl) rfl (ResOk.t rfl ResOk.nil) (OImp.sub (List.nil_sublist _)) ⟨rfl, rfl⟩

set_option maxRecDepth 20000 in
set_option maxHeartbeats 1000000 in
theorem c_ref22_product (n : Nat) (a : List (List Int)) (x y : List Int) (ha : SzM 256 a) (hx : SzL n x) (hy : SzL n y) (hok : combOk x a) (hl : a.length ≤ 12) (hyl : y.length = (a.getD 0 []).length) (hc : y.length ≤ 12) (hn : n ≤ 4294967296) : Fn Try.prog 115 [(kSl (kSl kZ)).is a, (kSl kZ).is x, (kSl kZ).is y] (kC.is (dotV (combV x a) y)) := by
  refine Con.enter Try.func115 rfl rfl fun m w => ?_
  refine CW.seq ?_
  refine CW.region ?_
  refine WP.al .n z31_C fun b1 => ?_
  refine WP.nil ?_
  refine QE.next ?_
  refine CW.seq ?_
  refine CW.region ?_
  refine WP.s .n (O.mv rfl) ?_
  refine WP.s .n (O.mv rfl) ?_
  refine WP.s .n (O.fn fn122 (evs.c rfl (evs.c rfl evs.nil)) (c_ref04_Combine (n + 256) x a (hx.up (by omega)) (ha.up (by omega)) (by omega))) ?_
  refine WP.s .n (O.mv rfl) ?_
  refine WP.s .n (O.ext rfl rfl) ?_
  refine WP.s .n (O.ext rfl rfl) ?_
  refine WP.s .n (O.asg rfl) ?_
  refine WP.s .n (O.asg rfl) ?_
  refine WP.nil ?_
  refine QE.next ?_
  refine CW.seq ?_
  refine ST.told 7 rfl (is_eq (y := (combV x a)) (comb_yes hok).1.symm) ?_
  have hC : SzL (n + 512) (combV x a) := (combV_Sz hx ha).up (by omega)
  have hll : (combV x a).length = y.length := by rw [combV_len, hyl]
  refine CW.region ?_
  refine WP.s .n (O.mv rfl) ?_
  refine WP.s .n (O.mv rfl) ?_
  refine WP.s .n (O.fn fn176 (evs.l rfl (slC_Z (by exact hC.sm (by omega))) (evs.c rfl evs.nil)) (c_ref04_Dot (n + 512) (combV x a) y hC (hy.up (by omega)) (by rw [combV_len]; omega))) ?_
  refine ST.told (q := VP.tup [kC.is (dotV (combV x a) y), (kInt .i64).is 0]) 20 rfl (tup_le (tup_cons (is_eq (if_pos hll)) (tup_cons (is_eq (if_pos hll)) tup_nil))) ?_
  refine WP.s .n (O.mv rfl) ?_
  refine WP.s .n (O.ext rfl rfl) ?_
  refine WP.s .n (O.ext rfl rfl) ?_
  refine WP.al .n z31_C fun b2 => ?_
  refine WP.t .n (O.stW (l := kC) (u := dotV (combV x a) y) 0 rfl rfl rfl ty31 rfl (VP.le_refl _)) ?_
  refine WP.s .n (O.asg rfl) ?_
  refine WP.nil ?_
  refine QE.next ?_
  refine CW.seq ?_
  refine CW.region ?_
  refine WP.s .n (O.ld rfl (mem_at 0 rfl) (Lens.id _) ty31 rfl) ?_
  refine WP.t .n (O.stW (l := kC) (u := dotV (combV x a) y) 1 rfl rfl rfl ty31 rfl (VP.le_refl _)) ?_
  refine WP.nil ?_
  refine QE.next ?_
  refine CW.ret ?_
  exact QE.done (.inl rfl) rfl (ResOk.c rfl (mem_at 1 rfl) ty31 ResOk.nil) (OImp.sub (List.nil_sublist _)) ⟨rfl, rfl⟩

set_option maxRecDepth 20000 in
set_option maxHeartbeats 1000000 in
theorem c_ref22_Value (n : Nat) (a : List (List Int)) (x : List Int) (hE : quadE a = 0) (hx : SzL n x) (hn : n ≤ 4294967296) : Fn Try.prog 56 [(kSl (kSl kZ)).is a, (kSl kZ).is x] (VP.tup [kC.is (qvalV a x), (kInt .i64).is (qvalE a x)]) := by
  refine Con.enter Try.func56 rfl rfl fun m w => ?_
  have hM := (quad_ok hE).1
  have hEn : ¬ quadE a ≠ 0 := fun h => h hE
  refine CW.seq ?_
  refine CW.region ?_
  refine WP.al .n z31_C fun b1 => ?_
  refine WP.s .n (O.asg rfl) ?_
  refine WP.nil ?_
  refine QE.next ?_
  refine CW.seq ?_
  refine CW.seq ?_
  refine CW.region ?_
  refine WP.s .n (O.mv rfl) ?_
  refine WP.s .n (O.lenS rfl Try.underlying27) ?_
  refine WP.s .n (O.mv rfl) ?_
  refine WP.s .n (O.lenS rfl Try.underlying67) ?_
  refine WP.s .n (O.ne rfl rfl) ?_
  refine WP.nil ?_
  refine QE.next ?_
  refine CW.condD rfl (fun h_t10 => ?_) (fun h_t10 => ?_)
  · refine CW.seq ?_
    refine CW.region ?_
    refine WP.s .n (O.bld lit31_C rfl evp.n (.nil _)) ?_
    refine WP.t .n (O.stW (l := kC) (u := 0) 0 rfl rfl rfl ty31 rfl (VP.le_refl _)) ?_
    refine WP.s .n (O.asg rfl) ?_
    refine WP.nil ?_
    refine QE.next ?_
    refine CW.ret ?_
    refine QE.thenR ?_
    refine ST.obtold 0 rfl (OB.box_eq (y := (qvalV a x)) (qv_2 hEn (by omega)).1.symm) ?_
    refine ST.told 5 rfl (is_eq (y := (qvalE a x)) (qv_2 hEn (by omega)).2.symm) ?_
    exact QE.done (.inl rfl) rfl (ResOk.c rfl (mem_at 0 rfl) ty31 (ResOk.t rfl ResOk.nil)) (OImp.sub (List.nil_sublist _)) ⟨rfl, rfl⟩
  · refine CW.skip ?_
    refine QE.next ?_
    refine CW.seq ?_
    refine CW.region ?_
    refine WP.s .n (O.mv rfl) ?_
    refine WP.s .n (O.mv rfl) ?_
    refine WP.s .n (O.mv rfl) ?_
    refine WP.s .n (O.fn fn115 (evs.c rfl (evs.c rfl (evs.c rfl evs.nil))) (c_ref22_product n a x x (by first | assumption | exact hM.z | exact hM.n | exact ⟨sqm_rb hM, by omega⟩ | (rw [hM.q 0 hM.n0]; omega) | (have := hM.n; omega)) (by first | assumption | exact hM.z | exact hM.n | exact ⟨sqm_rb hM, by omega⟩ | (rw [hM.q 0 hM.n0]; omega) | (have := hM.n; omega)) (by first | assumption | exact hM.z | exact hM.n | exact ⟨sqm_rb hM, by omega⟩ | (rw [hM.q 0 hM.n0]; omega) | (have := hM.n; omega)) (by first | assumption | exact hM.z | exact hM.n | exact ⟨sqm_rb hM, by omega⟩ | (rw [hM.q 0 hM.n0]; omega) | (have := hM.n; omega)) (by first | assumption | exact hM.z | exact hM.n | exact ⟨sqm_rb hM, by omega⟩ | (rw [hM.q 0 hM.n0]; omega) | (have := hM.n; omega)) (by first | assumption | exact hM.z | exact hM.n | exact ⟨sqm_rb hM, by omega⟩ | (rw [hM.q 0 hM.n0]; omega) | (have := hM.n; omega)) (by first | assumption | exact hM.z | exact hM.n | exact ⟨sqm_rb hM, by omega⟩ | (rw [hM.q 0 hM.n0]; omega) | (have := hM.n; omega)) (by first | assumption | exact hM.z | exact hM.n | exact ⟨sqm_rb hM, by omega⟩ | (rw [hM.q 0 hM.n0]; omega) | (have := hM.n; omega)))) ?_
    refine WP.t .n (O.stW (l := kC) (u := dotV (combV x a) x) 0 rfl rfl rfl ty31 rfl (VP.le_refl _)) ?_
    refine WP.s .n (O.asg rfl) ?_
    refine WP.nil ?_
    refine QE.next ?_
    refine CW.ret ?_
    refine ST.obtold 0 rfl (OB.box_eq (y := (qvalV a x)) (qv_3 hEn (by omega)).1.symm) ?_
    refine ST.told 5 rfl (is_eq (y := (qvalE a x)) (qv_3 hEn (by omega)).2.symm) ?_
    exact QE.done (.inl rfl) rfl (ResOk.c rfl (mem_at 0 rfl) ty31 (ResOk.t rfl ResOk.nil)) (OImp.sub (List.nil_sublist _)) ⟨rfl, rfl⟩

set_option maxRecDepth 20000 in
set_option maxHeartbeats 1000000 in
theorem c_ref22_Data (n : Nat) (a : List (List Int)) (ha : SzM n a) (hq : ∀ i, i < a.length → (a.getD i []).length = a.length) (hs : SymG (matF a)) (hl : a.length ≤ 12) (hn : n ≤ 4194304) (hP : PosU (matF a) a.length) : Fn Try.prog 57 [(kSl (kSl kZ)).is a] ((kPair (kSl kC) (kSl (kSl kC))).is (gDs (matF a) a.length, gLs (matF a) a.length)) := by
  refine Con.enter Try.func57 rfl rfl fun m w => ?_
  refine ST.fact (i := 0) rfl sl_len fun hB => ?_
  refine ST.fact (i := 0) rfl slsl_len fun hlc => ?_
  have hz : ∀ i j, Sz (n + n + 12) (matF a i j) := fun i j => (matF_Sz ha i j).up (by omega)
  have hU : ∀ k, k ≤ 12 → szU (n + n + 12) k ≤ 34359902208 := fun k hk => by have := szU_le (n + n + 12) hk; omega
  have hE := uE_Sz hs hz hP
  have hD := uD_Sz hs hz hP
  have hDp : ∀ k, k ≤ a.length → 0 < uD (matF a) k := fun k hk => hP.uD hk
  refine CW.seq ?_
  refine CW.region ?_
  refine WP.al .n z93_pr_sl_C_sl_sl_C_ fun b1 => ?_
  refine WP.nil ?_
  refine QE.next ?_
  refine CW.seq ?_
  refine CW.region ?_
  refine WP.s .n (O.fn fn78 (evs.l rfl (i64_int (by omega)) evs.nil) (c_ref02_Of 1)) ?_
  refine WP.bso .n Try.underlying27 el31_C (evl.c rfl evl.n) rfl (by decide) fun v2 => ?_
  refine ST.rowcell 0 rfl fun hcell_ => ?_
  refine WP.s .n (O.bld lit93_pr_val_val_ rfl (evp.l rfl (ex_val (by first | rfl | assumption)) evp.n) (.cons rfl (Lens.fst (Lens.id _)) (.nil _))) ?_
  refine WP.al .n z93_pr_val_val_ fun b3 => ?_
  refine WP.t .n (O.stW (l := (kPair kVal kVal)) (u := (v2, (.slice none 0 0))) 0 rfl rfl rfl ty93 rfl (VP.le_refl _)) ?_
  refine WP.nil ?_
  refine QE.next ?_
  refine CW.seq ?_
  refine CW.seq ?_
  refine CW.region ?_
  refine WP.s .n (O.asg rfl) ?_
  refine WP.nil ?_
  refine QE.next ?_
  refine CW.block ?_
  refine ST.nilrow 27 (kSl kC) ?_
  refine CW.loop3 (fun (i : Nat) (vD : Value) (vL : Value) => i ≤ a.length) (fun (i : Nat) (vD : Value) (vL : Value) => [(0, (kSl (kSl kZ)).is a), (2, VP.ex (.pointer (some ⟨b1, 0, none⟩))), (3, VP.ex (.pointer (some ⟨b3, 0, none⟩))), (4, (kInt .i64).is (i : Int))]) (fun (i : Nat) (vD : Value) (vL : Value) => [OB.row vL 27 (kSl kC) (gLs (matF a) i), OB.box b3 93 (kPair kVal kVal) (vD, vL), OB.row vD 31 kC (gDs (matF a) i), OB.box b1 93 (kPair (kSl kC) (kSl (kSl kC))) ([], [])]) (fun (i : Nat) (vD : Value) (vL : Value) => a.length - i) 0 v2 (.slice none 0 0) (by omega) (Imp.cons rfl (Imp.cons rfl (Imp.cons rfl (Imp.consLe rfl (is_eq (y := (0 : Int)) (by first | rfl | omega | assumption)) Imp.nil)))) (OImp.os (OS.keepLe (OB.row_eq (by first | rfl | omega | assumption)) (OS.keep (OS.keepLe (OB.row_eq (by first | rfl | omega | assumption)) (OS.keep OS.nil))))) ?_
  intro i vD vL hi
  refine CW.seq ?_
  refine CW.seq ?_
  refine CW.region ?_
  refine WP.s .n (O.mv rfl) ?_
  refine WP.s .n (O.mv rfl) ?_
  refine WP.s .n (O.lenS rfl Try.underlying67) ?_
  refine WP.s .n (O.lt rfl rfl) ?_
  refine WP.nil ?_
  refine QE.next ?_
  refine CW.condD rfl (fun h_t16 => ?_) (fun h_t16 => ?_)
  · refine CW.skip ?_
    refine QE.next ?_
    refine CW.seq ?_
    refine CW.block ?_
    refine CW.seq ?_
    refine CW.region ?_
    refine WP.s .n (O.asg rfl) ?_
    refine WP.nil ?_
    refine QE.next ?_
    refine CW.seq ?_
    refine CW.seq ?_
    refine CW.region ?_
    refine WP.s .n (O.asg rfl) ?_
    refine WP.nil ?_
    refine QE.next ?_
    refine CW.block ?_
    refine ST.nilrow 31 kC ?_
    have hi2 : i < a.length := by omega
    refine CW.loop3 (fun (j : Nat) (v : Value) (vE : Value) => j ≤ i + 1) (fun (j : Nat) (v : Value) (vE : Value) => [(0, (kSl (kSl kZ)).is a), (2, VP.ex (.pointer (some ⟨b1, 0, none⟩))), (3, VP.ex (.pointer (some ⟨b3, 0, none⟩))), (4, (kInt .i64).is (i : Int)), (5, VP.ex v), (6, (kInt .i64).is (j : Int))]) (fun (j : Nat) (v : Value) (vE : Value) => [OB.row v 31 kC (gRow (matF a) i (min j i)), OB.row vL 27 (kSl kC) (gLs (matF a) i), OB.box b3 93 (kPair kVal kVal) (vE, vL), OB.row vE 31 kC (gDs (matF a) (dI i j)), OB.box b1 93 (kPair (kSl kC) (kSl (kSl kC))) ([], [])]) (fun (j : Nat) (v : Value) (vE : Value) => i + 1 - j) 0 (.slice none 0 0) vD (by omega) (Imp.cons rfl (Imp.cons rfl (Imp.cons rfl (Imp.cons rfl (Imp.cons rfl (Imp.consLe rfl (is_eq (y := (0 : Int)) (by first | rfl | omega | assumption)) Imp.nil)))))) (OImp.os (OS.keepLe (OB.row_eq (by first | rfl | omega | assumption)) (OS.keep (OS.keep (OS.keepLe (OB.row_eq (by first | rfl | omega | assumption)) (OS.keep OS.nil)))))) ?_
    intro j v vE hj
    refine CW.seq ?_
    refine CW.seq ?_
    refine CW.region ?_
    refine WP.s .n (O.mv rfl) ?_
    refine WP.s .n (O.mv rfl) ?_
    refine WP.s .n (O.le rfl rfl) ?_
    refine WP.nil ?_
    refine QE.next ?_
    refine CW.condD rfl (fun h_t21 => ?_) (fun h_t21 => ?_)
    · refine CW.skip ?_
      refine QE.next ?_
      refine CW.seq ?_
      refine CW.block ?_
      refine CW.seq ?_
      refine CW.region ?_
      refine WP.s .n (O.mv rfl) ?_
      refine WP.s .n (O.mv rfl) ?_
      refine WP.s .n (O.ix i rfl rfl Try.underlying67 ty27 rfl (v := (a.getD i [])) (gd [] (by first | omega | (simp only [gRow_len, gDs_len, gLs_len]; omega) | (have := hq i (by omega); omega)))) ?_
      refine WP.s .n (O.ldP rfl ty27) ?_
      refine WP.s .n (O.mv rfl) ?_
      refine WP.s .n (O.ix j rfl rfl Try.underlying27 ty31 rfl (v := ((a.getD i []).getD j 0)) (gd 0 (by first | omega | (simp only [gRow_len, gDs_len, gLs_len]; omega) | (have := hq i (by omega); omega)))) ?_
      refine WP.s .n (O.ldP rfl ty31) ?_
      refine WP.al .n z31_Z fun b4 => ?_
      refine WP.t .n (O.stW (l := kZ) (u := ((a.getD i []).getD j 0)) 0 rfl rfl rfl ty31 rfl (VP.le_refl _)) ?_
      refine WP.nil ?_
      refine QE.next ?_
      refine CW.seq ?_
      refine CW.seq ?_
      refine CW.region ?_
      refine WP.s .n (O.asg rfl) ?_
      refine WP.nil ?_
      refine QE.next ?_
      refine CW.block ?_
      refine ST.obtold 1 rfl (OB.row_eq (ys := (gRow (matF a) i j)) (gRow_min (by omega))) ?_
      refine ST.obtold 4 rfl (OB.row_eq (ys := (gDs (matF a) i)) (by rw [dI_le (by omega)])) ?_
      refine CW.loop2 (fun (k : Nat) (p : Nat) => k ≤ j) (fun (k : Nat) (p : Nat) => [(0, (kSl (kSl kZ)).is a), (2, VP.ex (.pointer (some ⟨b1, 0, none⟩))), (3, VP.ex (.pointer (some ⟨b3, 0, none⟩))), (4, (kInt .i64).is (i : Int)), (5, VP.ex v), (6, (kInt .i64).is (j : Int)), (7, VP.ex (.pointer (some ⟨p, 0, none⟩))), (8, (kInt .i64).is (k : Int))]) (fun (k : Nat) (p : Nat) => [OB.box p 31 kZ (uE (matF a) k i j), OB.row v 31 kC (gRow (matF a) i j), OB.row vL 27 (kSl kC) (gLs (matF a) i), OB.box b3 93 (kPair kVal kVal) (vE, vL), OB.row vE 31 kC (gDs (matF a) i), OB.box b1 93 (kPair (kSl kC) (kSl (kSl kC))) ([], [])]) (fun (k : Nat) (p : Nat) => j - k) 0 b4 (by omega) (Imp.cons rfl (Imp.cons rfl (Imp.cons rfl (Imp.cons rfl (Imp.cons rfl (Imp.cons rfl (Imp.cons rfl (Imp.consLe rfl (is_eq (y := (0 : Int)) (by first | rfl | omega | assumption)) Imp.nil)))))))) (OImp.os (OS.keepLe (OB.box_eq (by first | rfl | omega | assumption)) (OS.keep (OS.keep (OS.keep (OS.keep (OS.keep OS.nil))))))) ?_
      intro k p hk
      refine CW.seq ?_
      refine CW.seq ?_
      refine CW.region ?_
      refine WP.s .n (O.mv rfl) ?_
      refine WP.s .n (O.mv rfl) ?_
      refine WP.s .n (O.lt rfl rfl) ?_
      refine WP.nil ?_
      refine QE.next ?_
      refine CW.condD rfl (fun h_t33 => ?_) (fun h_t33 => ?_)
      · refine CW.skip ?_
        refine QE.next ?_
        refine CW.seq ?_
        refine CW.block ?_
        refine CW.seq ?_
        have hUk := hU k (by omega)
        refine CW.region ?_
        refine WP.s .n (O.mv rfl) ?_
        refine WP.s .n (O.asg rfl) ?_
        refine WP.nil ?_
        refine QE.next ?_
        refine CW.seq ?_
        refine CW.seq ?_
        refine CW.region ?_
        refine WP.s .n (O.mv rfl) ?_
        refine WP.s .n (O.mv rfl) ?_
        refine WP.s .n (O.lt rfl rfl) ?_
        refine WP.nil ?_
        refine QE.next ?_
        refine CW.condD rfl (fun h_t39 => ?_) (fun h_t39 => ?_)
        · refine CW.region ?_
          refine WP.s .n (O.fa rfl fld93_1 rfl) ?_
          refine WP.s .n (OpOk.le (O.ld (p := kVal.is vL) rfl (mem_at 3 rfl) (Lens.snd (Lens.id _)) ty67 rfl) (val_ex _)) ?_
          refine WP.s .n (O.mv rfl) ?_
          refine WP.s .n (O.ixR (k := (kSl kC)) (xs := (gLs (matF a) i)) (n := (j : Int)) j rfl rfl (mem_at 2 rfl) Try.underlying67 ty27 rfl (by first | omega | (simp only [gRow_len, gDs_len, gLs_len]; omega) | (have := hq i (by omega); omega))) ?_
          refine WP.s .n (O.ldR j rfl (mem_at 2 rfl) (Lens.id _) rfl (y := ((gLs (matF a) i).getD j [])) (gd [] (by first | omega | (simp only [gRow_len, gDs_len, gLs_len]; omega) | (have := hq i (by omega); omega))) ty27 rfl) ?_
          refine WP.s .n (O.asg rfl) ?_
          refine WP.nil ?_
          refine QE.next ?_
          refine CW.seq ?_
          refine CW.draw (Γ := [.fr (VP.ex (.pointer (some ⟨b3, 0, none⟩))), .fr (VP.ex vE), .fr ((kInt .i64).is (k : Int)), .fr ((kInt .i64).is ((k : Int) + 1)), .fr (VP.pel vE ((((k : Int) + 1)).toNat * 2)), .fr (kC.is (uD (matF a) (k + 1))), .fr (kZ.is (uE (matF a) k i j)), .fr (kC.is ((uD (matF a) (k + 1)) * (uE (matF a) k i j))), .fr (VP.ex v), .fr ((kInt .i64).is (k : Int)), .fr (VP.pel v (k * 2)), .fr (kC.is (uE (matF a) k i k)), .fr ((kSl kC).is ((gLs (matF a) i).getD j [])), .fr ((kInt .i64).is (k : Int)), .fr (VP.pim kC (uE (matF a) k j k)), .fr (kC.is (uE (matF a) k j k)), .fr (kC.is ((uE (matF a) k i k) * (uE (matF a) k j k))), .fr (kC.is (((uD (matF a) (k + 1)) * (uE (matF a) k i j)) - ((uE (matF a) k i k) * (uE (matF a) k j k))))]) (lates := [false, false, false, false, false, false, false, false, false, false, false, false, false, false, false, false, false, false]) (by kernel_rfl) (Chk.of rfl (by kernel_rfl) rfl) (fun _ _ _ _ _ h => h) (fun q_ x_ h_ => ?_) (fun σ1 => ?_)
          · match q_, h_ with
            | 0, h_ => cases h_; exact Ob.f rfl .n fun N => (O.fa rfl fld93_0 rfl)
            | 1, h_ => cases h_; exact Ob.f rfl .n fun N => (OpOk.le (O.ld (p := kVal.is vE) rfl (mem_app N (mem_at 3 rfl)) (Lens.fst (Lens.id _)) ty27 rfl) (val_ex _))
            | 2, h_ => cases h_; exact Ob.f rfl .n fun N => (O.mv rfl)
            | 3, h_ => cases h_; exact Ob.f rfl .n fun N => (O.add rfl rfl (c := ((k : Int) + 1)) (w64 (by omega)))
            | 4, h_ => cases h_; exact Ob.f rfl .n fun N => (O.ixR (k := kC) (xs := (gDs (matF a) i)) (n := ((k : Int) + 1)) ((((k : Int) + 1)).toNat) rfl rfl (mem_app N (mem_at 4 rfl)) Try.underlying27 ty31 (by omega) (by first | omega | (simp only [gRow_len, gDs_len, gLs_len]; omega) | (have := hq i (by omega); omega)))
            | 5, h_ => cases h_; exact Ob.f rfl .n fun N => (O.ldR (k := kC) (xs := (gDs (matF a) i)) ((((k : Int) + 1)).toNat) rfl (mem_app N (mem_at 4 rfl)) (Lens.id _) (ho := rfl) (y := (uD (matF a) (k + 1))) (gDs_at (by omega)) ty31 rfl)
            | 6, h_ => cases h_; exact Ob.f rfl .n fun N => (O.ld rfl (mem_app N (mem_at 0 rfl)) (Lens.id _) ty31 rfl)
            | 7, h_ => cases h_; exact Ob.f rfl .n fun N => (O.fn fn91 (evs.l rfl (kC_Z (by first | assumption | exact (hE k (by omega) i j (by omega) (by omega)).sm (by omega) | exact (hE k (by omega) k k (by omega) (by omega)).sm (by omega) | exact (hE k (by omega) i k (by omega) (by omega)).sm (by omega) | exact (hE k (by omega) j k (by omega) (by omega)).sm (by omega) | exact (hE i (by omega) i i (by omega) (by omega)).sm (by omega) | exact (hD k (by omega)).sm (by omega) | exact (((hE k (by omega) k k (by omega) (by omega)).mul (hE k (by omega) i j (by omega) (by omega))).sub ((hE k (by omega) i k (by omega) (by omega)).mul (hE k (by omega) j k (by omega) (by omega)))).sm (by omega) | exact ((hE k (by omega) k k (by omega) (by omega)).mul (hE k (by omega) i j (by omega) (by omega))).sm (by omega) | exact ((hE k (by omega) i k (by omega) (by omega)).mul (hE k (by omega) j k (by omega) (by omega))).sm (by omega) | exact (hE (k + 1) (by omega) i j (by omega) (by omega)).sm (by have := hU (k + 1) (by omega); omega))) (evs.c rfl evs.nil)) (c_ref02_Mul (uD (matF a) (k + 1)) (uE (matF a) k i j)))
            | 8, h_ => cases h_; exact Ob.f rfl .n fun N => (O.mv rfl)
            | 9, h_ => cases h_; exact Ob.f rfl .n fun N => (O.mv rfl)
            | 10, h_ => cases h_; exact Ob.f rfl .n fun N => (O.ixR (k := kC) (xs := (gRow (matF a) i j)) (n := (k : Int)) k rfl rfl (mem_app N (mem_at 1 rfl)) Try.underlying27 ty31 rfl (by first | omega | (simp only [gRow_len, gDs_len, gLs_len]; omega) | (have := hq i (by omega); omega)))
            | 11, h_ => cases h_; exact Ob.f rfl .n fun N => (O.ldR (k := kC) (xs := (gRow (matF a) i j)) k rfl (mem_app N (mem_at 1 rfl)) (Lens.id _) (ho := rfl) (y := (uE (matF a) k i k)) (gRow_at (by omega)) ty31 rfl)
            | 12, h_ => cases h_; exact Ob.f rfl .n fun N => (O.mv rfl)
            | 13, h_ => cases h_; exact Ob.f rfl .n fun N => (O.mv rfl)
            | 14, h_ => cases h_; exact Ob.f rfl .n fun N => (O.ix k rfl rfl Try.underlying27 ty31 rfl (v := (uE (matF a) k j k)) (gLs_at (by omega) (by omega)))
            | 15, h_ => cases h_; exact Ob.f rfl .n fun N => (O.ldP rfl ty31)
            | 16, h_ => cases h_; exact Ob.f rfl .n fun N => (O.fn fn91 (evs.l rfl (kC_Z (by first | assumption | exact (hE k (by omega) i j (by omega) (by omega)).sm (by omega) | exact (hE k (by omega) k k (by omega) (by omega)).sm (by omega) | exact (hE k (by omega) i k (by omega) (by omega)).sm (by omega) | exact (hE k (by omega) j k (by omega) (by omega)).sm (by omega) | exact (hE i (by omega) i i (by omega) (by omega)).sm (by omega) | exact (hD k (by omega)).sm (by omega) | exact (((hE k (by omega) k k (by omega) (by omega)).mul (hE k (by omega) i j (by omega) (by omega))).sub ((hE k (by omega) i k (by omega) (by omega)).mul (hE k (by omega) j k (by omega) (by omega)))).sm (by omega) | exact ((hE k (by omega) k k (by omega) (by omega)).mul (hE k (by omega) i j (by omega) (by omega))).sm (by omega) | exact ((hE k (by omega) i k (by omega) (by omega)).mul (hE k (by omega) j k (by omega) (by omega))).sm (by omega) | exact (hE (k + 1) (by omega) i j (by omega) (by omega)).sm (by have := hU (k + 1) (by omega); omega))) (evs.l rfl (kC_Z (by first | assumption | exact (hE k (by omega) i j (by omega) (by omega)).sm (by omega) | exact (hE k (by omega) k k (by omega) (by omega)).sm (by omega) | exact (hE k (by omega) i k (by omega) (by omega)).sm (by omega) | exact (hE k (by omega) j k (by omega) (by omega)).sm (by omega) | exact (hE i (by omega) i i (by omega) (by omega)).sm (by omega) | exact (hD k (by omega)).sm (by omega) | exact (((hE k (by omega) k k (by omega) (by omega)).mul (hE k (by omega) i j (by omega) (by omega))).sub ((hE k (by omega) i k (by omega) (by omega)).mul (hE k (by omega) j k (by omega) (by omega)))).sm (by omega) | exact ((hE k (by omega) k k (by omega) (by omega)).mul (hE k (by omega) i j (by omega) (by omega))).sm (by omega) | exact ((hE k (by omega) i k (by omega) (by omega)).mul (hE k (by omega) j k (by omega) (by omega))).sm (by omega) | exact (hE (k + 1) (by omega) i j (by omega) (by omega)).sm (by have := hU (k + 1) (by omega); omega))) evs.nil)) (c_ref02_Mul (uE (matF a) k i k) (uE (matF a) k j k)))
            | 17, h_ => cases h_; exact Ob.f rfl .n fun N => (O.fn fn90 (evs.l rfl (kC_Z (by first | assumption | exact (hE k (by omega) i j (by omega) (by omega)).sm (by omega) | exact (hE k (by omega) k k (by omega) (by omega)).sm (by omega) | exact (hE k (by omega) i k (by omega) (by omega)).sm (by omega) | exact (hE k (by omega) j k (by omega) (by omega)).sm (by omega) | exact (hE i (by omega) i i (by omega) (by omega)).sm (by omega) | exact (hD k (by omega)).sm (by omega) | exact (((hE k (by omega) k k (by omega) (by omega)).mul (hE k (by omega) i j (by omega) (by omega))).sub ((hE k (by omega) i k (by omega) (by omega)).mul (hE k (by omega) j k (by omega) (by omega)))).sm (by omega) | exact ((hE k (by omega) k k (by omega) (by omega)).mul (hE k (by omega) i j (by omega) (by omega))).sm (by omega) | exact ((hE k (by omega) i k (by omega) (by omega)).mul (hE k (by omega) j k (by omega) (by omega))).sm (by omega) | exact (hE (k + 1) (by omega) i j (by omega) (by omega)).sm (by have := hU (k + 1) (by omega); omega))) (evs.l rfl (kC_Z (by first | assumption | exact (hE k (by omega) i j (by omega) (by omega)).sm (by omega) | exact (hE k (by omega) k k (by omega) (by omega)).sm (by omega) | exact (hE k (by omega) i k (by omega) (by omega)).sm (by omega) | exact (hE k (by omega) j k (by omega) (by omega)).sm (by omega) | exact (hE i (by omega) i i (by omega) (by omega)).sm (by omega) | exact (hD k (by omega)).sm (by omega) | exact (((hE k (by omega) k k (by omega) (by omega)).mul (hE k (by omega) i j (by omega) (by omega))).sub ((hE k (by omega) i k (by omega) (by omega)).mul (hE k (by omega) j k (by omega) (by omega)))).sm (by omega) | exact ((hE k (by omega) k k (by omega) (by omega)).mul (hE k (by omega) i j (by omega) (by omega))).sm (by omega) | exact ((hE k (by omega) i k (by omega) (by omega)).mul (hE k (by omega) j k (by omega) (by omega))).sm (by omega) | exact (hE (k + 1) (by omega) i j (by omega) (by omega)).sm (by have := hU (k + 1) (by omega); omega))) evs.nil)) (c_ref02_Sub ((uD (matF a) (k + 1)) * (uE (matF a) k i j)) ((uE (matF a) k i k) * (uE (matF a) k j k))))
            | n_ + 18, h_ => simp at h_
          refine WP.t .n (O.stW (l := kC) (u := ((uD (matF a) (k + 1)) * (uE (matF a) k i j)) - ((uE (matF a) k i k) * (uE (matF a) k j k))) 0 rfl rfl rfl ty31 rfl (VP.le_refl _)) ?_
          refine WP.nil ?_
          refine QE.next ?_
          refine CW.draw (Γ := [.fr (kC.is (((uD (matF a) (k + 1)) * (uE (matF a) k i j)) - ((uE (matF a) k i k) * (uE (matF a) k j k)))), .fr (VP.ex (.pointer (some ⟨b3, 0, none⟩))), .fr (VP.ex vE), .fr ((kInt .i64).is (k : Int)), .fr (VP.pel vE (k * 2)), .fr (kC.is (uD (matF a) k)), .fr (VP.tup [kC.is ((((uD (matF a) (k + 1)) * (uE (matF a) k i j)) - ((uE (matF a) k i k) * (uE (matF a) k j k))).fdiv (uD (matF a) k)), kC.is ((((uD (matF a) (k + 1)) * (uE (matF a) k i j)) - ((uE (matF a) k i k) * (uE (matF a) k j k))).fmod (uD (matF a) k))]), .fr (VP.tup [kC.is ((((uD (matF a) (k + 1)) * (uE (matF a) k i j)) - ((uE (matF a) k i k) * (uE (matF a) k j k))).fdiv (uD (matF a) k)), kC.is ((((uD (matF a) (k + 1)) * (uE (matF a) k i j)) - ((uE (matF a) k i k) * (uE (matF a) k j k))).fmod (uD (matF a) k))]), .fr (kC.is ((((uD (matF a) (k + 1)) * (uE (matF a) k i j)) - ((uE (matF a) k i k) * (uE (matF a) k j k))).fdiv (uD (matF a) k))), .lt (kC.is ((((uD (matF a) (k + 1)) * (uE (matF a) k i j)) - ((uE (matF a) k i k) * (uE (matF a) k j k))).fmod (uD (matF a) k)))]) (lates := [false, false, false, false, false, false, false, false, false, true]) (by kernel_rfl) (Chk.of rfl (by kernel_rfl) rfl) (fun _ _ _ _ _ h => h) (fun q_ x_ h_ => ?_) (fun σ2 => ?_)
          · match q_, h_ with
            | 0, h_ => cases h_; exact Ob.f rfl .n fun N => (O.ld rfl (mem_app N (mem_at 0 rfl)) (Lens.id _) ty31 rfl)
            | 1, h_ => cases h_; exact Ob.f rfl .n fun N => (O.fa rfl fld93_0 rfl)
            | 2, h_ => cases h_; exact Ob.f rfl .n fun N => (OpOk.le (O.ld (p := kVal.is vE) rfl (mem_app N (mem_at 3 rfl)) (Lens.fst (Lens.id _)) ty27 rfl) (val_ex _))
            | 3, h_ => cases h_; exact Ob.f rfl .n fun N => (O.mv rfl)
            | 4, h_ => cases h_; exact Ob.f rfl .n fun N => (O.ixR (k := kC) (xs := (gDs (matF a) i)) (n := (k : Int)) k rfl rfl (mem_app N (mem_at 4 rfl)) Try.underlying27 ty31 rfl (by first | omega | (simp only [gRow_len, gDs_len, gLs_len]; omega) | (have := hq i (by omega); omega)))
            | 5, h_ => cases h_; exact Ob.f rfl .n fun N => (O.ldR (k := kC) (xs := (gDs (matF a) i)) k rfl (mem_app N (mem_at 4 rfl)) (Lens.id _) (ho := rfl) (y := (uD (matF a) k)) (gDs_at (by omega)) ty31 rfl)
            | 6, h_ => cases h_; exact Ob.f rfl .n fun N => (O.fn fn89 (evs.l rfl (kC_Z (by first | assumption | exact (hE k (by omega) i j (by omega) (by omega)).sm (by omega) | exact (hE k (by omega) k k (by omega) (by omega)).sm (by omega) | exact (hE k (by omega) i k (by omega) (by omega)).sm (by omega) | exact (hE k (by omega) j k (by omega) (by omega)).sm (by omega) | exact (hE i (by omega) i i (by omega) (by omega)).sm (by omega) | exact (hD k (by omega)).sm (by omega) | exact (((hE k (by omega) k k (by omega) (by omega)).mul (hE k (by omega) i j (by omega) (by omega))).sub ((hE k (by omega) i k (by omega) (by omega)).mul (hE k (by omega) j k (by omega) (by omega)))).sm (by omega) | exact ((hE k (by omega) k k (by omega) (by omega)).mul (hE k (by omega) i j (by omega) (by omega))).sm (by omega) | exact ((hE k (by omega) i k (by omega) (by omega)).mul (hE k (by omega) j k (by omega) (by omega))).sm (by omega) | exact (hE (k + 1) (by omega) i j (by omega) (by omega)).sm (by have := hU (k + 1) (by omega); omega))) (evs.l rfl (kC_Z (by first | assumption | exact (hE k (by omega) i j (by omega) (by omega)).sm (by omega) | exact (hE k (by omega) k k (by omega) (by omega)).sm (by omega) | exact (hE k (by omega) i k (by omega) (by omega)).sm (by omega) | exact (hE k (by omega) j k (by omega) (by omega)).sm (by omega) | exact (hE i (by omega) i i (by omega) (by omega)).sm (by omega) | exact (hD k (by omega)).sm (by omega) | exact (((hE k (by omega) k k (by omega) (by omega)).mul (hE k (by omega) i j (by omega) (by omega))).sub ((hE k (by omega) i k (by omega) (by omega)).mul (hE k (by omega) j k (by omega) (by omega)))).sm (by omega) | exact ((hE k (by omega) k k (by omega) (by omega)).mul (hE k (by omega) i j (by omega) (by omega))).sm (by omega) | exact ((hE k (by omega) i k (by omega) (by omega)).mul (hE k (by omega) j k (by omega) (by omega))).sm (by omega) | exact (hE (k + 1) (by omega) i j (by omega) (by omega)).sm (by have := hU (k + 1) (by omega); omega))) evs.nil)) (c_ref02_Floor (((uD (matF a) (k + 1)) * (uE (matF a) k i j)) - ((uE (matF a) k i k) * (uE (matF a) k j k))) (uD (matF a) k) (by first | assumption | omega | (have := hDp k (by omega); omega))))
            | 7, h_ => cases h_; exact Ob.f rfl .n fun N => (O.mv rfl)
            | 8, h_ => cases h_; exact Ob.f rfl .n fun N => (O.ext rfl rfl)
            | 9, h_ => cases h_; exact Ob.l rfl .n (OV.ext rfl rfl)
            | n_ + 10, h_ => simp at h_
          refine WP.t .n (O.stW (l := kC) (u := (((uD (matF a) (k + 1)) * (uE (matF a) k i j)) - ((uE (matF a) k i k) * (uE (matF a) k j k))).fdiv (uD (matF a) k)) 0 rfl rfl rfl ty31 rfl (VP.le_refl _)) ?_
          refine WP.nil ?_
          refine QE.blkN ?_
          refine QE.next ?_
          refine CW.region ?_
          refine WP.s .n (O.mv rfl) ?_
          refine WP.s .n (O.add rfl rfl (c := ((k : Int) + 1)) (w64 (by omega))) ?_
          refine WP.s .n (O.asg rfl) ?_
          refine WP.nil ?_
          refine ST.obtold 0 rfl (OB.box_eq (y := (uE (matF a) (k + 1) i j)) (uE_succ _ k i j).symm) ?_
          exact QE.round2 (k + 1) p (by omega) (by omega) (Imp.cons rfl (Imp.cons rfl (Imp.cons rfl (Imp.cons rfl (Imp.cons rfl (Imp.cons rfl (Imp.cons rfl (Imp.consLe rfl (is_eq (y := (((k + 1) : Nat) : Int)) (by first | rfl | omega | assumption)) Imp.nil)))))))) (OImp.os (OS.keepLe (OB.C_Zeq (by first | assumption | exact (hE k (by omega) i j (by omega) (by omega)).sm (by omega) | exact (hE k (by omega) k k (by omega) (by omega)).sm (by omega) | exact (hE k (by omega) i k (by omega) (by omega)).sm (by omega) | exact (hE k (by omega) j k (by omega) (by omega)).sm (by omega) | exact (hE i (by omega) i i (by omega) (by omega)).sm (by omega) | exact (hD k (by omega)).sm (by omega) | exact (((hE k (by omega) k k (by omega) (by omega)).mul (hE k (by omega) i j (by omega) (by omega))).sub ((hE k (by omega) i k (by omega) (by omega)).mul (hE k (by omega) j k (by omega) (by omega)))).sm (by omega) | exact ((hE k (by omega) k k (by omega) (by omega)).mul (hE k (by omega) i j (by omega) (by omega))).sm (by omega) | exact ((hE k (by omega) i k (by omega) (by omega)).mul (hE k (by omega) j k (by omega) (by omega))).sm (by omega) | exact (hE (k + 1) (by omega) i j (by omega) (by omega)).sm (by have := hU (k + 1) (by omega); omega)) (by first | rfl | omega | assumption)) (OS.keep (OS.keep (OS.keep (OS.keep (OS.keep OS.nil)))))))
        · refine CW.skip ?_
          refine QE.next ?_
          refine CW.seq ?_
          refine CW.draw (Γ := [.fr (VP.ex (.pointer (some ⟨b3, 0, none⟩))), .fr (VP.ex vE), .fr ((kInt .i64).is (k : Int)), .fr ((kInt .i64).is ((k : Int) + 1)), .fr (VP.pel vE ((((k : Int) + 1)).toNat * 2)), .fr (kC.is (uD (matF a) (k + 1))), .fr (kZ.is (uE (matF a) k i j)), .fr (kC.is ((uD (matF a) (k + 1)) * (uE (matF a) k i j))), .fr (VP.ex v), .fr ((kInt .i64).is (k : Int)), .fr (VP.pel v (k * 2)), .fr (kC.is (uE (matF a) k i k)), .fr (VP.ex v), .fr ((kInt .i64).is (k : Int)), .fr (VP.pel v (k * 2)), .fr (kC.is (uE (matF a) k j k)), .fr (kC.is ((uE (matF a) k i k) * (uE (matF a) k j k))), .fr (kC.is (((uD (matF a) (k + 1)) * (uE (matF a) k i j)) - ((uE (matF a) k i k) * (uE (matF a) k j k))))]) (lates := [false, false, false, false, false, false, false, false, false, false, false, false, false, false, false, false, false, false]) (by kernel_rfl) (Chk.of rfl (by kernel_rfl) rfl) (fun _ _ _ _ _ h => h) (fun q_ x_ h_ => ?_) (fun σ3 => ?_)
          · match q_, h_ with
            | 0, h_ => cases h_; exact Ob.f rfl .n fun N => (O.fa rfl fld93_0 rfl)
            | 1, h_ => cases h_; exact Ob.f rfl .n fun N => (OpOk.le (O.ld (p := kVal.is vE) rfl (mem_app N (mem_at 3 rfl)) (Lens.fst (Lens.id _)) ty27 rfl) (val_ex _))
            | 2, h_ => cases h_; exact Ob.f rfl .n fun N => (O.mv rfl)
            | 3, h_ => cases h_; exact Ob.f rfl .n fun N => (O.add rfl rfl (c := ((k : Int) + 1)) (w64 (by omega)))
            | 4, h_ => cases h_; exact Ob.f rfl .n fun N => (O.ixR (k := kC) (xs := (gDs (matF a) i)) (n := ((k : Int) + 1)) ((((k : Int) + 1)).toNat) rfl rfl (mem_app N (mem_at 4 rfl)) Try.underlying27 ty31 (by omega) (by first | omega | (simp only [gRow_len, gDs_len, gLs_len]; omega) | (have := hq i (by omega); omega)))
            | 5, h_ => cases h_; exact Ob.f rfl .n fun N => (O.ldR (k := kC) (xs := (gDs (matF a) i)) ((((k : Int) + 1)).toNat) rfl (mem_app N (mem_at 4 rfl)) (Lens.id _) (ho := rfl) (y := (uD (matF a) (k + 1))) (gDs_at (by omega)) ty31 rfl)
            | 6, h_ => cases h_; exact Ob.f rfl .n fun N => (O.ld rfl (mem_app N (mem_at 0 rfl)) (Lens.id _) ty31 rfl)
            | 7, h_ => cases h_; exact Ob.f rfl .n fun N => (O.fn fn91 (evs.l rfl (kC_Z (by first | assumption | exact (hE k (by omega) i j (by omega) (by omega)).sm (by omega) | exact (hE k (by omega) k k (by omega) (by omega)).sm (by omega) | exact (hE k (by omega) i k (by omega) (by omega)).sm (by omega) | exact (hE k (by omega) j k (by omega) (by omega)).sm (by omega) | exact (hE i (by omega) i i (by omega) (by omega)).sm (by omega) | exact (hD k (by omega)).sm (by omega) | exact (((hE k (by omega) k k (by omega) (by omega)).mul (hE k (by omega) i j (by omega) (by omega))).sub ((hE k (by omega) i k (by omega) (by omega)).mul (hE k (by omega) j k (by omega) (by omega)))).sm (by omega) | exact ((hE k (by omega) k k (by omega) (by omega)).mul (hE k (by omega) i j (by omega) (by omega))).sm (by omega) | exact ((hE k (by omega) i k (by omega) (by omega)).mul (hE k (by omega) j k (by omega) (by omega))).sm (by omega) | exact (hE (k + 1) (by omega) i j (by omega) (by omega)).sm (by have := hU (k + 1) (by omega); omega))) (evs.c rfl evs.nil)) (c_ref02_Mul (uD (matF a) (k + 1)) (uE (matF a) k i j)))
            | 8, h_ => cases h_; exact Ob.f rfl .n fun N => (O.mv rfl)
            | 9, h_ => cases h_; exact Ob.f rfl .n fun N => (O.mv rfl)
            | 10, h_ => cases h_; exact Ob.f rfl .n fun N => (O.ixR (k := kC) (xs := (gRow (matF a) i j)) (n := (k : Int)) k rfl rfl (mem_app N (mem_at 1 rfl)) Try.underlying27 ty31 rfl (by first | omega | (simp only [gRow_len, gDs_len, gLs_len]; omega) | (have := hq i (by omega); omega)))
            | 11, h_ => cases h_; exact Ob.f rfl .n fun N => (O.ldR (k := kC) (xs := (gRow (matF a) i j)) k rfl (mem_app N (mem_at 1 rfl)) (Lens.id _) (ho := rfl) (y := (uE (matF a) k i k)) (gRow_at (by omega)) ty31 rfl)
            | 12, h_ => cases h_; exact Ob.f rfl .n fun N => (O.mv rfl)
            | 13, h_ => cases h_; exact Ob.f rfl .n fun N => (O.mv rfl)
            | 14, h_ => cases h_; exact Ob.f rfl .n fun N => (O.ixR (k := kC) (xs := (gRow (matF a) i j)) (n := (k : Int)) k rfl rfl (mem_app N (mem_at 1 rfl)) Try.underlying27 ty31 rfl (by first | omega | (simp only [gRow_len, gDs_len, gLs_len]; omega) | (have := hq i (by omega); omega)))
            | 15, h_ => cases h_; exact Ob.f rfl .n fun N => (O.ldR (k := kC) (xs := (gRow (matF a) i j)) k rfl (mem_app N (mem_at 1 rfl)) (Lens.id _) (ho := rfl) (y := (uE (matF a) k j k)) (by rw [show j = i by omega]; exact gRow_at (by omega)) ty31 rfl)
            | 16, h_ => cases h_; exact Ob.f rfl .n fun N => (O.fn fn91 (evs.l rfl (kC_Z (by first | assumption | exact (hE k (by omega) i j (by omega) (by omega)).sm (by omega) | exact (hE k (by omega) k k (by omega) (by omega)).sm (by omega) | exact (hE k (by omega) i k (by omega) (by omega)).sm (by omega) | exact (hE k (by omega) j k (by omega) (by omega)).sm (by omega) | exact (hE i (by omega) i i (by omega) (by omega)).sm (by omega) | exact (hD k (by omega)).sm (by omega) | exact (((hE k (by omega) k k (by omega) (by omega)).mul (hE k (by omega) i j (by omega) (by omega))).sub ((hE k (by omega) i k (by omega) (by omega)).mul (hE k (by omega) j k (by omega) (by omega)))).sm (by omega) | exact ((hE k (by omega) k k (by omega) (by omega)).mul (hE k (by omega) i j (by omega) (by omega))).sm (by omega) | exact ((hE k (by omega) i k (by omega) (by omega)).mul (hE k (by omega) j k (by omega) (by omega))).sm (by omega) | exact (hE (k + 1) (by omega) i j (by omega) (by omega)).sm (by have := hU (k + 1) (by omega); omega))) (evs.l rfl (kC_Z (by first | assumption | exact (hE k (by omega) i j (by omega) (by omega)).sm (by omega) | exact (hE k (by omega) k k (by omega) (by omega)).sm (by omega) | exact (hE k (by omega) i k (by omega) (by omega)).sm (by omega) | exact (hE k (by omega) j k (by omega) (by omega)).sm (by omega) | exact (hE i (by omega) i i (by omega) (by omega)).sm (by omega) | exact (hD k (by omega)).sm (by omega) | exact (((hE k (by omega) k k (by omega) (by omega)).mul (hE k (by omega) i j (by omega) (by omega))).sub ((hE k (by omega) i k (by omega) (by omega)).mul (hE k (by omega) j k (by omega) (by omega)))).sm (by omega) | exact ((hE k (by omega) k k (by omega) (by omega)).mul (hE k (by omega) i j (by omega) (by omega))).sm (by omega) | exact ((hE k (by omega) i k (by omega) (by omega)).mul (hE k (by omega) j k (by omega) (by omega))).sm (by omega) | exact (hE (k + 1) (by omega) i j (by omega) (by omega)).sm (by have := hU (k + 1) (by omega); omega))) evs.nil)) (c_ref02_Mul (uE (matF a) k i k) (uE (matF a) k j k)))
            | 17, h_ => cases h_; exact Ob.f rfl .n fun N => (O.fn fn90 (evs.l rfl (kC_Z (by first | assumption | exact (hE k (by omega) i j (by omega) (by omega)).sm (by omega) | exact (hE k (by omega) k k (by omega) (by omega)).sm (by omega) | exact (hE k (by omega) i k (by omega) (by omega)).sm (by omega) | exact (hE k (by omega) j k (by omega) (by omega)).sm (by omega) | exact (hE i (by omega) i i (by omega) (by omega)).sm (by omega) | exact (hD k (by omega)).sm (by omega) | exact (((hE k (by omega) k k (by omega) (by omega)).mul (hE k (by omega) i j (by omega) (by omega))).sub ((hE k (by omega) i k (by omega) (by omega)).mul (hE k (by omega) j k (by omega) (by omega)))).sm (by omega) | exact ((hE k (by omega) k k (by omega) (by omega)).mul (hE k (by omega) i j (by omega) (by omega))).sm (by omega) | exact ((hE k (by omega) i k (by omega) (by omega)).mul (hE k (by omega) j k (by omega) (by omega))).sm (by omega) | exact (hE (k + 1) (by omega) i j (by omega) (by omega)).sm (by have := hU (k + 1) (by omega); omega))) (evs.l rfl (kC_Z (by first | assumption | exact (hE k (by omega) i j (by omega) (by omega)).sm (by omega) | exact (hE k (by omega) k k (by omega) (by omega)).sm (by omega) | exact (hE k (by omega) i k (by omega) (by omega)).sm (by omega) | exact (hE k (by omega) j k (by omega) (by omega)).sm (by omega) | exact (hE i (by omega) i i (by omega) (by omega)).sm (by omega) | exact (hD k (by omega)).sm (by omega) | exact (((hE k (by omega) k k (by omega) (by omega)).mul (hE k (by omega) i j (by omega) (by omega))).sub ((hE k (by omega) i k (by omega) (by omega)).mul (hE k (by omega) j k (by omega) (by omega)))).sm (by omega) | exact ((hE k (by omega) k k (by omega) (by omega)).mul (hE k (by omega) i j (by omega) (by omega))).sm (by omega) | exact ((hE k (by omega) i k (by omega) (by omega)).mul (hE k (by omega) j k (by omega) (by omega))).sm (by omega) | exact (hE (k + 1) (by omega) i j (by omega) (by omega)).sm (by have := hU (k + 1) (by omega); omega))) evs.nil)) (c_ref02_Sub ((uD (matF a) (k + 1)) * (uE (matF a) k i j)) ((uE (matF a) k i k) * (uE (matF a) k j k))))
            | n_ + 18, h_ => simp at h_
          refine WP.t .n (O.stW (l := kC) (u := ((uD (matF a) (k + 1)) * (uE (matF a) k i j)) - ((uE (matF a) k i k) * (uE (matF a) k j k))) 0 rfl rfl rfl ty31 rfl (VP.le_refl _)) ?_
          refine WP.nil ?_
          refine QE.next ?_
          refine CW.draw (Γ := [.fr (kC.is (((uD (matF a) (k + 1)) * (uE (matF a) k i j)) - ((uE (matF a) k i k) * (uE (matF a) k j k)))), .fr (VP.ex (.pointer (some ⟨b3, 0, none⟩))), .fr (VP.ex vE), .fr ((kInt .i64).is (k : Int)), .fr (VP.pel vE (k * 2)), .fr (kC.is (uD (matF a) k)), .fr (VP.tup [kC.is ((((uD (matF a) (k + 1)) * (uE (matF a) k i j)) - ((uE (matF a) k i k) * (uE (matF a) k j k))).fdiv (uD (matF a) k)), kC.is ((((uD (matF a) (k + 1)) * (uE (matF a) k i j)) - ((uE (matF a) k i k) * (uE (matF a) k j k))).fmod (uD (matF a) k))]), .fr (VP.tup [kC.is ((((uD (matF a) (k + 1)) * (uE (matF a) k i j)) - ((uE (matF a) k i k) * (uE (matF a) k j k))).fdiv (uD (matF a) k)), kC.is ((((uD (matF a) (k + 1)) * (uE (matF a) k i j)) - ((uE (matF a) k i k) * (uE (matF a) k j k))).fmod (uD (matF a) k))]), .fr (kC.is ((((uD (matF a) (k + 1)) * (uE (matF a) k i j)) - ((uE (matF a) k i k) * (uE (matF a) k j k))).fdiv (uD (matF a) k))), .lt (kC.is ((((uD (matF a) (k + 1)) * (uE (matF a) k i j)) - ((uE (matF a) k i k) * (uE (matF a) k j k))).fmod (uD (matF a) k)))]) (lates := [false, false, false, false, false, false, false, false, false, true]) (by kernel_rfl) (Chk.of rfl (by kernel_rfl) rfl) (fun _ _ _ _ _ h => h) (fun q_ x_ h_ => ?_) (fun σ4 => ?_)
          · match q_, h_ with
            | 0, h_ => cases h_; exact Ob.f rfl .n fun N => (O.ld rfl (mem_app N (mem_at 0 rfl)) (Lens.id _) ty31 rfl)
            | 1, h_ => cases h_; exact Ob.f rfl .n fun N => (O.fa rfl fld93_0 rfl)
            | 2, h_ => cases h_; exact Ob.f rfl .n fun N => (OpOk.le (O.ld (p := kVal.is vE) rfl (mem_app N (mem_at 3 rfl)) (Lens.fst (Lens.id _)) ty27 rfl) (val_ex _))
            | 3, h_ => cases h_; exact Ob.f rfl .n fun N => (O.mv rfl)
            | 4, h_ => cases h_; exact Ob.f rfl .n fun N => (O.ixR (k := kC) (xs := (gDs (matF a) i)) (n := (k : Int)) k rfl rfl (mem_app N (mem_at 4 rfl)) Try.underlying27 ty31 rfl (by first | omega | (simp only [gRow_len, gDs_len, gLs_len]; omega) | (have := hq i (by omega); omega)))
            | 5, h_ => cases h_; exact Ob.f rfl .n fun N => (O.ldR (k := kC) (xs := (gDs (matF a) i)) k rfl (mem_app N (mem_at 4 rfl)) (Lens.id _) (ho := rfl) (y := (uD (matF a) k)) (gDs_at (by omega)) ty31 rfl)
            | 6, h_ => cases h_; exact Ob.f rfl .n fun N => (O.fn fn89 (evs.l rfl (kC_Z (by first | assumption | exact (hE k (by omega) i j (by omega) (by omega)).sm (by omega) | exact (hE k (by omega) k k (by omega) (by omega)).sm (by omega) | exact (hE k (by omega) i k (by omega) (by omega)).sm (by omega) | exact (hE k (by omega) j k (by omega) (by omega)).sm (by omega) | exact (hE i (by omega) i i (by omega) (by omega)).sm (by omega) | exact (hD k (by omega)).sm (by omega) | exact (((hE k (by omega) k k (by omega) (by omega)).mul (hE k (by omega) i j (by omega) (by omega))).sub ((hE k (by omega) i k (by omega) (by omega)).mul (hE k (by omega) j k (by omega) (by omega)))).sm (by omega) | exact ((hE k (by omega) k k (by omega) (by omega)).mul (hE k (by omega) i j (by omega) (by omega))).sm (by omega) | exact ((hE k (by omega) i k (by omega) (by omega)).mul (hE k (by omega) j k (by omega) (by omega))).sm (by omega) | exact (hE (k + 1) (by omega) i j (by omega) (by omega)).sm (by have := hU (k + 1) (by omega); omega))) (evs.l rfl (kC_Z (by first | assumption | exact (hE k (by omega) i j (by omega) (by omega)).sm (by omega) | exact (hE k (by omega) k k (by omega) (by omega)).sm (by omega) | exact (hE k (by omega) i k (by omega) (by omega)).sm (by omega) | exact (hE k (by omega) j k (by omega) (by omega)).sm (by omega) | exact (hE i (by omega) i i (by omega) (by omega)).sm (by omega) | exact (hD k (by omega)).sm (by omega) | exact (((hE k (by omega) k k (by omega) (by omega)).mul (hE k (by omega) i j (by omega) (by omega))).sub ((hE k (by omega) i k (by omega) (by omega)).mul (hE k (by omega) j k (by omega) (by omega)))).sm (by omega) | exact ((hE k (by omega) k k (by omega) (by omega)).mul (hE k (by omega) i j (by omega) (by omega))).sm (by omega) | exact ((hE k (by omega) i k (by omega) (by omega)).mul (hE k (by omega) j k (by omega) (by omega))).sm (by omega) | exact (hE (k + 1) (by omega) i j (by omega) (by omega)).sm (by have := hU (k + 1) (by omega); omega))) evs.nil)) (c_ref02_Floor (((uD (matF a) (k + 1)) * (uE (matF a) k i j)) - ((uE (matF a) k i k) * (uE (matF a) k j k))) (uD (matF a) k) (by first | assumption | omega | (have := hDp k (by omega); omega))))
            | 7, h_ => cases h_; exact Ob.f rfl .n fun N => (O.mv rfl)
            | 8, h_ => cases h_; exact Ob.f rfl .n fun N => (O.ext rfl rfl)
            | 9, h_ => cases h_; exact Ob.l rfl .n (OV.ext rfl rfl)
            | n_ + 10, h_ => simp at h_
          refine WP.t .n (O.stW (l := kC) (u := (((uD (matF a) (k + 1)) * (uE (matF a) k i j)) - ((uE (matF a) k i k) * (uE (matF a) k j k))).fdiv (uD (matF a) k)) 0 rfl rfl rfl ty31 rfl (VP.le_refl _)) ?_
          refine WP.nil ?_
          refine QE.blkN ?_
          refine QE.next ?_
          refine CW.region ?_
          refine WP.s .n (O.mv rfl) ?_
          refine WP.s .n (O.add rfl rfl (c := ((k : Int) + 1)) (w64 (by omega))) ?_
          refine WP.s .n (O.asg rfl) ?_
          refine WP.nil ?_
          refine ST.obtold 0 rfl (OB.box_eq (y := (uE (matF a) (k + 1) i j)) (uE_succ _ k i j).symm) ?_
          exact QE.round2 (k + 1) p (by omega) (by omega) (Imp.cons rfl (Imp.cons rfl (Imp.cons rfl (Imp.cons rfl (Imp.cons rfl (Imp.cons rfl (Imp.cons rfl (Imp.consLe rfl (is_eq (y := (((k + 1) : Nat) : Int)) (by first | rfl | omega | assumption)) Imp.nil)))))))) (OImp.os (OS.keepLe (OB.C_Zeq (by first | assumption | exact (hE k (by omega) i j (by omega) (by omega)).sm (by omega) | exact (hE k (by omega) k k (by omega) (by omega)).sm (by omega) | exact (hE k (by omega) i k (by omega) (by omega)).sm (by omega) | exact (hE k (by omega) j k (by omega) (by omega)).sm (by omega) | exact (hE i (by omega) i i (by omega) (by omega)).sm (by omega) | exact (hD k (by omega)).sm (by omega) | exact (((hE k (by omega) k k (by omega) (by omega)).mul (hE k (by omega) i j (by omega) (by omega))).sub ((hE k (by omega) i k (by omega) (by omega)).mul (hE k (by omega) j k (by omega) (by omega)))).sm (by omega) | exact ((hE k (by omega) k k (by omega) (by omega)).mul (hE k (by omega) i j (by omega) (by omega))).sm (by omega) | exact ((hE k (by omega) i k (by omega) (by omega)).mul (hE k (by omega) j k (by omega) (by omega))).sm (by omega) | exact (hE (k + 1) (by omega) i j (by omega) (by omega)).sm (by have := hU (k + 1) (by omega); omega)) (by first | rfl | omega | assumption)) (OS.keep (OS.keep (OS.keep (OS.keep (OS.keep OS.nil)))))))
      · refine CW.exit ?_
        refine QE.thenE ?_
        refine QE.thenE ?_
        refine QE.blkH ?_
        refine QE.next ?_
        refine CW.seq ?_
        refine CW.region ?_
        refine WP.s .n (O.mv rfl) ?_
        refine WP.s .n (O.mv rfl) ?_
        refine WP.s .n (O.lt rfl rfl) ?_
        refine WP.nil ?_
        refine QE.next ?_
        refine CW.condD rfl (fun h_t75 => ?_) (fun h_t75 => ?_)
        · refine CW.region ?_
          refine WP.s .n (O.mv rfl) ?_
          refine WP.s .n (O.ld rfl (mem_at 0 rfl) (Lens.id _) ty31 rfl) ?_
          refine WP.s .n (O.fn fn92 (evs.c rfl evs.nil) (c_ref02_Norm (uE (matF a) k i j))) ?_
          refine WP.s .n (O.bs Try.underlying27 el31_C (evl.c rfl evl.n) rfl (by decide)) ?_
          refine WP.ap 1 .n rfl rfl rfl (VP.le_refl _) Try.underlying27 el31_C (by simp only [gRow_len, gDs_len, gLs_len, List.length_cons, List.length_nil]; omega) fun v5 => ?_
          refine WP.s .n (O.asg rfl) ?_
          refine WP.nil ?_
          refine QE.blkN ?_
          refine QE.next ?_
          refine CW.region ?_
          refine WP.s .n (O.mv rfl) ?_
          refine WP.s .n (O.add rfl rfl (c := ((j : Int) + 1)) (w64 (by omega))) ?_
          refine WP.s .n (O.asg rfl) ?_
          refine WP.nil ?_
          refine ST.obtold 1 rfl (OB.row_eq (ys := (gRow (matF a) i (min (j + 1) i))) (by rw [show k = j by omega, gRow_app, Nat.min_eq_left (by omega)])) ?_
          refine ST.obtold 4 rfl (OB.row_eq (ys := (gDs (matF a) (dI i (j + 1)))) (by rw [dI_le (by omega)])) ?_
          exact QE.round3 (j + 1) v5 vE (by omega) (by omega) (Imp.cons rfl (Imp.cons rfl (Imp.cons rfl (Imp.cons rfl (Imp.cons rfl (Imp.consLe rfl (is_eq (y := (((j + 1) : Nat) : Int)) (by first | rfl | omega | assumption)) Imp.nil)))))) (OImp.os (OS.skip (OS.keep (OS.keep (OS.keep (OS.keep (OS.keep OS.nil)))))))
        · refine CW.draw (Γ := [.fr (VP.ex (.pointer (some ⟨b3, 0, none⟩))), .fr (VP.ex vE), .fr (kZ.is (uE (matF a) k i j)), .fr (kC.is (uE (matF a) k i j)), .fr ((kSl kC).is [(uE (matF a) k i j)])]) (lates := [false, false, false, false, false]) (by kernel_rfl) (Chk.of rfl (by kernel_rfl) rfl) (fun _ _ _ _ _ h => h) (fun q_ x_ h_ => ?_) (fun σ5 => ?_)
          · match q_, h_ with
            | 0, h_ => cases h_; exact Ob.f rfl .n fun N => (O.fa rfl fld93_0 rfl)
            | 1, h_ => cases h_; exact Ob.f rfl .n fun N => (OpOk.le (O.ld (p := kVal.is vE) rfl (mem_app N (mem_at 3 rfl)) (Lens.fst (Lens.id _)) ty27 rfl) (val_ex _))
            | 2, h_ => cases h_; exact Ob.f rfl .n fun N => (O.ld rfl (mem_app N (mem_at 0 rfl)) (Lens.id _) ty31 rfl)
            | 3, h_ => cases h_; exact Ob.f rfl .n fun N => (O.fn fn92 (evs.c rfl evs.nil) (c_ref02_Norm (uE (matF a) k i j)))
            | 4, h_ => cases h_; exact Ob.f rfl .n fun N => (O.bs Try.underlying27 el31_C (evl.c rfl evl.n) rfl (by decide))
            | n_ + 5, h_ => simp at h_
          refine WP.ap 4 .n rfl rfl rfl (VP.le_refl _) Try.underlying27 el31_C (by simp only [gRow_len, gDs_len, gLs_len, List.length_cons, List.length_nil]; omega) fun v6 => ?_
          refine WP.s .n (O.fa rfl fld93_0 rfl) ?_
          refine ST.rowcell 4 rfl fun hcell_ => ?_
          refine WP.t .n (O.st 3 rfl rfl (Lens.fst (Lens.id _)) ty27 rfl (ex_val (by first | rfl | assumption))) ?_
          refine WP.nil ?_
          refine QE.blkN ?_
          refine QE.next ?_
          refine CW.region ?_
          refine WP.s .n (O.mv rfl) ?_
          refine WP.s .n (O.add rfl rfl (c := ((j : Int) + 1)) (w64 (by omega))) ?_
          refine WP.s .n (O.asg rfl) ?_
          refine WP.nil ?_
          refine ST.obtold 1 rfl (OB.row_eq (ys := (gRow (matF a) i (min (j + 1) i))) (by rw [show j = i by omega, Nat.min_eq_right (by omega)])) ?_
          refine ST.obtold 4 rfl (OB.row_eq (ys := (gDs (matF a) (dI i (j + 1)))) (by rw [show k = i by omega, show j = i by omega, gDs_app]; unfold dI; rw [if_neg (by omega)])) ?_
          exact QE.round3 (j + 1) v v6 (by omega) (by omega) (Imp.cons rfl (Imp.cons rfl (Imp.cons rfl (Imp.cons rfl (Imp.cons rfl (Imp.consLe rfl (is_eq (y := (((j + 1) : Nat) : Int)) (by first | rfl | omega | assumption)) Imp.nil)))))) (OImp.os (OS.skip (OS.keep (OS.keep (OS.keep (OS.keep (OS.keep OS.nil)))))))
    · refine CW.exit ?_
      refine QE.thenE ?_
      refine QE.thenE ?_
      refine QE.blkH ?_
      refine QE.next ?_
      refine ST.obtold 0 rfl (OB.row_eq (ys := (gRow (matF a) i i)) (by rw [Nat.min_eq_right (by omega)])) ?_
      refine ST.freeze 0 rfl (.keep (i := 0) rfl (.keep (i := 2) rfl (.keep (i := 3) rfl (.keep (i := 4) rfl (.hit (i := 5) rfl (.keep (i := 6) rfl (.keep (i := 19) rfl (.keep (i := 20) rfl (.keep (i := 21) rfl .nil))))))))) ?_
      refine ST.obtold 2 rfl (OB.row_eq (ys := (gDs (matF a) (i + 1))) (by unfold dI; rw [if_neg (by omega)])) ?_
      refine CW.region ?_
      refine WP.s .n (O.fa rfl fld93_1 rfl) ?_
      refine WP.s .n (OpOk.le (O.ld (p := kVal.is vL) rfl (mem_at 1 rfl) (Lens.snd (Lens.id _)) ty67 rfl) (val_ex _)) ?_
      refine WP.s .n (O.mv rfl) ?_
      refine WP.s .n (O.bs Try.underlying67 el27_sl_C (evl.c rfl evl.n) rfl (by decide)) ?_
      refine WP.ap 0 .n rfl rfl rfl (VP.le_refl _) Try.underlying67 el27_sl_C (by simp only [gRow_len, gDs_len, gLs_len, List.length_cons, List.length_nil]; omega) fun v7 => ?_
      refine WP.s .n (O.fa rfl fld93_1 rfl) ?_
      refine ST.rowcell 0 rfl fun hcell_ => ?_
      refine WP.t .n (O.st 1 rfl rfl (Lens.snd (Lens.id _)) ty67 rfl (ex_val (by first | rfl | assumption))) ?_
      refine WP.nil ?_
      refine QE.blkN ?_
      refine QE.next ?_
      refine CW.region ?_
      refine WP.s .n (O.mv rfl) ?_
      refine WP.s .n (O.add rfl rfl (c := ((i : Int) + 1)) (w64 (by omega))) ?_
      refine WP.s .n (O.asg rfl) ?_
      refine WP.nil ?_
      refine ST.obtold 0 rfl (OB.row_eq (ys := (gLs (matF a) (i + 1))) (gLs_app (matF a) i)) ?_
      exact QE.round3 (i + 1) vE v7 (by omega) (by omega) (Imp.cons rfl (Imp.cons rfl (Imp.cons rfl (Imp.consLe rfl (is_eq (y := (((i + 1) : Nat) : Int)) (by first | rfl | omega | assumption)) Imp.nil)))) (OImp.refl _)
  · refine CW.exit ?_
    refine QE.thenE ?_
    refine QE.thenE ?_
    refine QE.blkH ?_
    refine QE.next ?_
    refine CW.seq ?_
    refine ST.freezeIn (k2 := (kPair (kSl kC) kVal)) ((gDs (matF a) i), vL) 2 1 rfl rfl (fun m_ cs_ h_ c_ => fz_fst m_ cs_ h_ c_) (.keep (i := 0) rfl (.keep (i := 2) rfl (.keep (i := 3) rfl (.keep (i := 4) rfl (.keep (i := 13) rfl (.keep (i := 14) rfl (.keep (i := 15) rfl (.keep (i := 16) rfl .nil)))))))) ?_
    refine ST.freezeIn (k2 := (kPair (kSl kC) (kSl (kSl kC)))) ((gDs (matF a) i), (gLs (matF a) i)) 0 0 rfl rfl (fun m_ cs_ h_ c_ => fz_snd m_ cs_ h_ c_) (.keep (i := 0) rfl (.keep (i := 2) rfl (.keep (i := 3) rfl (.keep (i := 4) rfl (.keep (i := 13) rfl (.keep (i := 14) rfl (.keep (i := 15) rfl (.keep (i := 16) rfl .nil)))))))) ?_
    refine CW.region ?_
    refine WP.s .n (O.ld (p := (kPair (kSl kC) (kSl (kSl kC))).is ((gDs (matF a) i), (gLs (matF a) i))) rfl (mem_at 0 rfl) (Lens.id _) ty93 rfl) ?_
    refine WP.t .n (O.stW (l := (kPair (kSl kC) (kSl (kSl kC)))) (u := ((gDs (matF a) i), (gLs (matF a) i))) 1 rfl rfl rfl ty93 rfl (VP.le_refl _)) ?_
    refine WP.nil ?_
    refine QE.next ?_
    refine CW.ret ?_
    refine ST.obtold 1 rfl (OB.box_eq (y := (gDs (matF a) a.length, gLs (matF a) a.length)) (by rw [show i = a.length by omega])) ?_
    exact QE.done (.inl rfl) rfl (ResOk.c rfl (mem_at 1 rfl) ty93 ResOk.nil) (OImp.sub (List.nil_sublist _)) ⟨rfl, rfl⟩

set_option maxRecDepth 20000 in
set_option maxHeartbeats 1000000 in
theorem c_law22_ownm (b : List (List Int)) : Fn Try.prog 52 [(kSl (kSl kZ)).is b] ((kSl (kSl kZ)).is b) := by
  refine Con.enter Try.func52 rfl rfl fun m w => ?_
  refine ST.fact (i := 0) rfl sl_len fun hB => ?_
  refine CW.seq ?_
  refine CW.region ?_
  refine WP.s .n (O.asg rfl) ?_
  refine WP.nil ?_
  refine QE.next ?_
  refine CW.seq ?_
  refine CW.region ?_
  refine WP.s .n (O.asg rfl) ?_
  refine WP.nil ?_
  refine QE.next ?_
  refine CW.seq ?_
  refine CW.seq ?_
  refine CW.region ?_
  refine WP.s .n (O.asg rfl) ?_
  refine WP.nil ?_
  refine QE.next ?_
  refine CW.block ?_
  refine ST.nilrow 27 (kSl kZ) ?_
  refine CW.loop2 (fun (i : Nat) (v : Value) => i ≤ b.length) (fun (i : Nat) (v : Value) => [(0, (kSl (kSl kZ)).is b), (3, VP.ex v), (4, (kInt .i64).is (i : Int))]) (fun (i : Nat) (v : Value) => [OB.row v 27 (kSl kZ) (b.take i)]) (fun (i : Nat) (v : Value) => b.length - i) 0 (.slice none 0 0) (by omega) (Imp.cons rfl (Imp.cons rfl (Imp.consLe rfl (is_eq (y := (0 : Int)) (by first | omega | simp)) Imp.nil))) (OImp.os (OS.keepLe (OB.row_eq (by first | omega | simp)) OS.nil)) ?_
  intro i v hR
  have htl : (b.take i).length = i := by simp; omega
  refine CW.seq ?_
  refine CW.seq ?_
  refine CW.region ?_
  refine WP.s .n (O.mv rfl) ?_
  refine WP.s .n (O.mv rfl) ?_
  refine WP.s .n (O.lenS rfl Try.underlying67) ?_
  refine WP.s .n (O.lt rfl rfl) ?_
  refine WP.nil ?_
  refine QE.next ?_
  refine CW.condD rfl (fun h_t8 => ?_) (fun h_t8 => ?_)
  · refine CW.skip ?_
    refine QE.next ?_
    refine CW.seq ?_
    refine CW.block ?_
    refine CW.region ?_
    refine WP.s .n (O.mv rfl) ?_
    refine WP.s .n (O.mv rfl) ?_
    refine WP.s .n (O.mv rfl) ?_
    refine WP.s .n (O.ix i rfl rfl Try.underlying67 ty27 rfl (v := (b.getD i [])) (gd [] (by omega))) ?_
    refine WP.s .n (O.ldP rfl ty27) ?_
    refine WP.s .n (O.fn fn54 (evs.c rfl evs.nil) (c_law22_owns (b.getD i []))) ?_
    refine WP.s .n (O.bs Try.underlying67 el27_sl_Z (evl.c rfl evl.n) rfl (by decide)) ?_
    refine WP.ap 0 .n rfl rfl rfl (VP.le_refl _) Try.underlying67 el27_sl_Z (by simp; omega) fun v1 => ?_
    refine WP.s .n (O.asg rfl) ?_
    refine WP.nil ?_
    refine QE.blkN ?_
    refine QE.next ?_
    refine CW.region ?_
    refine WP.s .n (O.mv rfl) ?_
    refine WP.s .n (O.add rfl rfl (c := ((i : Int) + 1)) (w64 (by omega))) ?_
    refine WP.s .n (O.asg rfl) ?_
    refine WP.nil ?_
    refine ST.obtold 0 rfl (OB.row_eq (ys := (b.take (i + 1))) (take_app (by omega))) ?_
    exact QE.round2 (i + 1) v1 (by omega) (by omega) (Imp.cons rfl (Imp.cons rfl (Imp.consLe rfl (is_eq (y := (((i + 1) : Nat) : Int)) (by first | omega | simp)) Imp.nil))) (OImp.refl _)
  · refine CW.exit ?_
    refine QE.thenE ?_
    refine QE.thenE ?_
    refine QE.blkH ?_
    refine QE.next ?_
    refine CW.seq ?_
    refine CW.region ?_
    refine WP.s .n (O.mv rfl) ?_
    refine WP.s .n (O.asg rfl) ?_
    refine WP.nil ?_
    refine QE.next ?_
    refine CW.ret ?_
    refine ST.freeze 0 rfl (.keep (i := 0) rfl (.hit (i := 2) rfl (.hit (i := 3) rfl (.keep (i := 4) rfl (.keep (i := 5) rfl (.keep (i := 6) rfl (.keep (i := 7) rfl (.keep (i := 8) rfl (.hit (i := 19) rfl .nil))))))))) ?_
    refine ST.told 2 rfl (is_eq (y := b) (List.take_of_length_le (by omega))) ?_
    exact QE.done (.inl rfl) rfl (ResOk.t rfl ResOk.nil) (OImp.sub (List.nil_sublist _)) ⟨rfl, rfl⟩

set_option maxRecDepth 20000 in
set_option maxHeartbeats 1000000 in
theorem c_law22_QuadValues (a : List (List Int)) (x : List Int) (hx : SzL 33554432 x) : Fn Try.prog 9 [(kSl (kSl kZ)).is a, (kSl kZ).is x] (kBool.is true) := by
  refine Con.enter Try.func9 rfl rfl fun m w => ?_
  refine CW.seq ?_
  refine CW.region ?_
  refine WP.s .n (O.asg rfl) ?_
  refine WP.nil ?_
  refine QE.next ?_
  refine CW.seq ?_
  refine CW.region ?_
  refine WP.s .n (O.mv rfl) ?_
  refine WP.s .n (O.fn fn50 (evs.c rfl evs.nil) (c_ref22_Valid a)) ?_
  refine WP.s .n (O.asg rfl) ?_
  refine WP.nil ?_
  refine QE.next ?_
  refine CW.seq ?_
  refine CW.seq ?_
  refine CW.region ?_
  refine WP.s .n (O.mv rfl) ?_
  refine WP.s .n (O.fn fn52 (evs.c rfl evs.nil) (c_law22_ownm a)) ?_
  refine WP.s .n (O.fn fn51 (evs.c rfl evs.nil) (c_quad_Valid a)) ?_
  refine WP.s .n (O.mv rfl) ?_
  refine WP.s .n (O.ne rfl rfl) ?_
  refine WP.nil ?_
  refine QE.next ?_
  refine CW.condD rfl (fun h => absurd h (fun h => h rfl)) (fun h_t19 => ?_)
  refine CW.skip ?_
  refine QE.next ?_
  refine CW.seq ?_
  refine CW.region ?_
  refine WP.s .n (O.mv rfl) ?_
  refine WP.s .n (O.fn fn52 (evs.c rfl evs.nil) (c_law22_ownm a)) ?_
  refine WP.s .n (O.mv rfl) ?_
  refine WP.s .n (O.fn fn54 (evs.c rfl evs.nil) (c_law22_owns x)) ?_
  refine WP.s .n (O.fn fn53 (evs.c rfl (evs.c rfl evs.nil)) (c_quad_Value 33554432 a x (by first | assumption | decide | exact hM.z | exact hM.q | exact hM.s | exact hM.n | exact hOk.2 | omega) (by first | assumption | decide | exact hM.z | exact hM.q | exact hM.s | exact hM.n | exact hOk.2 | omega))) ?_
  refine WP.s .n (O.mv rfl) ?_
  refine WP.s .n (O.ext rfl rfl) ?_
  refine WP.s .n (O.ext rfl rfl) ?_
  refine WP.al .n z31_C fun b1 => ?_
  refine WP.t .n (O.stW (l := kC) (u := qvalV a x) 0 rfl rfl rfl ty31 rfl (VP.le_refl _)) ?_
  refine WP.s .n (O.asg rfl) ?_
  refine WP.nil ?_
  refine QE.next ?_
  refine CW.seq ?_
  refine CW.region ?_
  refine WP.s .n (O.mv rfl) ?_
  refine WP.s .n (O.fn fn52 (evs.c rfl evs.nil) (c_law22_ownm a)) ?_
  refine WP.s .n (O.fn fn55 (evs.c rfl evs.nil) (c_quad_Data a)) ?_
  refine WP.s .n (O.mv rfl) ?_
  refine WP.s .n (O.ext rfl rfl) ?_
  refine WP.s .n (O.ext rfl rfl) ?_
  refine WP.al .n z93_pr_sl_C_sl_sl_C_ fun b2 => ?_
  refine WP.t .n (O.stW (l := (kPair (kSl kC) (kSl (kSl kC)))) (u := quadR a) 0 rfl rfl rfl ty93 rfl (VP.le_refl _)) ?_
  refine WP.s .n (O.asg rfl) ?_
  refine WP.nil ?_
  refine QE.next ?_
  refine CW.seq ?_
  refine CW.seq ?_
  refine CW.region ?_
  refine WP.s .n (O.mv rfl) ?_
  refine WP.s .n (O.ne rfl rfl) ?_
  refine WP.nil ?_
  refine QE.next ?_
  refine CW.condD rfl (fun h_t35 => ?_) (fun h_t35 => ?_)
  · refine CW.seq ?_
    refine CW.region ?_
    refine WP.s .n (O.mv rfl) ?_
    refine WP.s .n (O.mv rfl) ?_
    refine WP.s .n (O.eq rfl rfl) ?_
    refine WP.s .n (O.mv rfl) ?_
    refine WP.splitD 39 rfl (fun h_t39 => ?_) (fun h => absurd (qv_1 h_t35).2 h)
    refine WP.s (.g rfl rfl) (O.mv rfl) ?_
    refine WP.s (.g rfl rfl) (O.mv rfl) ?_
    refine WP.s (.g rfl rfl) (O.eq rfl rfl) ?_
    refine WP.s .n (O.pickT rfl rfl) ?_
    refine WP.s .n (O.mv rfl) ?_
    refine WP.splitD 44 rfl (fun h_t44 => ?_) (fun h => absurd rfl h)
    refine WP.s (.g rfl rfl) (O.ld rfl (mem_at 1 rfl) (Lens.id _) ty31 rfl) ?_
    refine WP.s (.g rfl rfl) (O.bld lit31_C rfl evp.n (.nil _)) ?_
    refine WP.s (.g rfl rfl) (O.fn fn29 (evs.l rfl (kC_I _) (evs.l rfl (kC_I _) evs.nil)) (c_law22_eq (canon (qvalV a x)) (canon 0))) ?_
    refine WP.s .n (O.pickT rfl rfl) ?_
    refine WP.s .n (O.mv rfl) ?_
    refine WP.splitD 49 rfl (fun h_t49 => ?_) (fun h => absurd (by rw [(qv_1 h_t35).1]) h)
    refine WP.s (.g rfl rfl) (O.fa rfl fld93_0 rfl) ?_
    refine WP.s (.g rfl rfl) (O.ld rfl (mem_at 0 rfl) (Lens.fst (Lens.id _)) ty27 rfl) ?_
    refine WP.s (.g rfl rfl) (O.lenS rfl Try.underlying27) ?_
    refine WP.s (.g rfl rfl) (O.eq rfl rfl) ?_
    refine WP.s .n (O.pickT rfl rfl) ?_
    refine WP.s .n (O.mv rfl) ?_
    refine WP.splitD 55 rfl (fun h_t55 => ?_) (fun h => absurd (by rw [← quadR_1 h_t35]; rfl) h)
    refine WP.s (.g rfl rfl) (O.fa rfl fld93_1 rfl) ?_
    refine WP.s (.g rfl rfl) (O.ld rfl (mem_at 0 rfl) (Lens.snd (Lens.id _)) ty67 rfl) ?_
    refine WP.s (.g rfl rfl) (O.lenS rfl Try.underlying67) ?_
    refine WP.s (.g rfl rfl) (O.eq rfl rfl) ?_
    refine WP.s .n (O.pickT rfl rfl) ?_
    refine WP.s .n (O.asg rfl) ?_
    refine WP.nil ?_
    refine QE.next ?_
    refine CW.ret ?_
    refine QE.thenR ?_
    refine ST.told 4 rfl (is_eq (y := true) (decide_eq_true (by rw [← quadR_1 h_t35]; rfl))) ?_
    exact QE.done (.inl rfl) rfl (ResOk.t rfl ResOk.nil) (OImp.sub (List.nil_sublist _)) ⟨rfl, rfl⟩
  · refine CW.skip ?_
    refine QE.next ?_
    refine CW.seq ?_
    have hE0 : quadE a = 0 := by omega
    have hOk := quad_ok hE0
    have hM := hOk.1
    have hRR : quadR a = (gDs (matF a) a.length, gLs (matF a) a.length) := if_neg (by omega)
    refine CW.region ?_
    refine WP.s .n (O.mv rfl) ?_
    refine WP.s .n (O.mv rfl) ?_
    refine WP.s .n (O.fn fn56 (evs.c rfl (evs.c rfl evs.nil)) (c_ref22_Value 33554432 a x (by first | assumption | decide | exact hM.z | exact hM.q | exact hM.s | exact hM.n | exact hOk.2 | omega) (by first | assumption | decide | exact hM.z | exact hM.q | exact hM.s | exact hM.n | exact hOk.2 | omega) (by first | assumption | decide | exact hM.z | exact hM.q | exact hM.s | exact hM.n | exact hOk.2 | omega))) ?_
    refine WP.s .n (O.mv rfl) ?_
    refine WP.s .n (O.ext rfl rfl) ?_
    refine WP.s .n (O.ext rfl rfl) ?_
    refine WP.al .n z31_C fun b3 => ?_
    refine WP.t .n (O.stW (l := kC) (u := qvalV a x) 0 rfl rfl rfl ty31 rfl (VP.le_refl _)) ?_
    refine WP.s .n (O.asg rfl) ?_
    refine WP.nil ?_
    refine QE.next ?_
    refine CW.seq ?_
    refine CW.region ?_
    refine WP.s .n (O.mv rfl) ?_
    refine WP.s .n (O.fn fn57 (evs.c rfl evs.nil) (c_ref22_Data 256 a (by first | assumption | decide | exact hM.z | exact hM.q | exact hM.s | exact hM.n | exact hOk.2 | omega) (by first | assumption | decide | exact hM.z | exact hM.q | exact hM.s | exact hM.n | exact hOk.2 | omega) (by first | assumption | decide | exact hM.z | exact hM.q | exact hM.s | exact hM.n | exact hOk.2 | omega) (by first | assumption | decide | exact hM.z | exact hM.q | exact hM.s | exact hM.n | exact hOk.2 | omega) (by first | assumption | decide | exact hM.z | exact hM.q | exact hM.s | exact hM.n | exact hOk.2 | omega) (by first | assumption | decide | exact hM.z | exact hM.q | exact hM.s | exact hM.n | exact hOk.2 | omega))) ?_
    refine WP.al .n z93_pr_sl_C_sl_sl_C_ fun b4 => ?_
    refine WP.t .n (O.stW (l := (kPair (kSl kC) (kSl (kSl kC)))) (u := (gDs (matF a) a.length, gLs (matF a) a.length)) 0 rfl rfl rfl ty93 rfl (VP.le_refl _)) ?_
    refine WP.nil ?_
    refine QE.next ?_
    refine CW.seq ?_
    refine CW.region ?_
    refine WP.s .n (O.mv rfl) ?_
    refine WP.s .n (O.mv rfl) ?_
    refine WP.s .n (O.eq rfl rfl) ?_
    refine WP.s .n (O.mv rfl) ?_
    refine WP.splitD 72 rfl (fun h_t72 => ?_) (fun h => absurd rfl h)
    refine WP.s (.g rfl rfl) (O.ld rfl (mem_at 3 rfl) (Lens.id _) ty31 rfl) ?_
    refine WP.s (.g rfl rfl) (O.ld rfl (mem_at 1 rfl) (Lens.id _) ty31 rfl) ?_
    refine WP.s (.g rfl rfl) (O.fn fn29 (evs.l rfl (kC_I _) (evs.l rfl (kC_I _) evs.nil)) (c_law22_eq (canon (qvalV a x)) (canon (qvalV a x)))) ?_
    refine WP.s .n (O.pickT rfl rfl) ?_
    refine WP.s .n (O.mv rfl) ?_
    refine WP.splitD 77 rfl (fun h_t77 => ?_) (fun h => absurd rfl h)
    refine WP.s (.g rfl rfl) (O.mv rfl) ?_
    refine WP.s (.g rfl rfl) (O.eq rfl rfl) ?_
    refine WP.s .n (O.pickT rfl rfl) ?_
    refine WP.s .n (O.mv rfl) ?_
    refine WP.splitD 81 rfl (fun h_t81 => ?_) (fun h => absurd (by omega) h)
    refine WP.s (.g rfl rfl) (O.fa rfl fld93_0 rfl) ?_
    refine WP.s (.g rfl rfl) (O.ld rfl (mem_at 2 rfl) (Lens.fst (Lens.id _)) ty27 rfl) ?_
    refine WP.s (.g rfl rfl) (O.fa rfl fld93_0 rfl) ?_
    refine WP.s (.g rfl rfl) (O.ld (p := (kSl kC).is (gDs (matF a) a.length)) rfl (mem_at 0 rfl) (Lens.fst (Lens.id _)) ty27 rfl) ?_
    refine WP.s (.g rfl rfl) (O.fn fn58 (evs.c rfl (evs.c rfl evs.nil)) (c_law22_eqs ((quadR a).1) (gDs (matF a) a.length))) ?_
    refine WP.s .n (O.pickT rfl rfl) ?_
    refine WP.s .n (O.mv rfl) ?_
    refine WP.splitD 88 rfl (fun h_t88 => ?_) (fun h => absurd (congrArg Prod.fst hRR) h)
    refine WP.s (.g rfl rfl) (O.fa rfl fld93_1 rfl) ?_
    refine WP.s (.g rfl rfl) (O.ld rfl (mem_at 2 rfl) (Lens.snd (Lens.id _)) ty67 rfl) ?_
    refine WP.s (.g rfl rfl) (O.fa rfl fld93_1 rfl) ?_
    refine WP.s (.g rfl rfl) (O.ld (p := (kSl (kSl kC)).is (gLs (matF a) a.length)) rfl (mem_at 0 rfl) (Lens.snd (Lens.id _)) ty67 rfl) ?_
    refine WP.s (.g rfl rfl) (O.fn fn59 (evs.c rfl (evs.c rfl evs.nil)) (c_law22_eqm ((quadR a).2) (gLs (matF a) a.length))) ?_
    refine WP.s .n (O.pickT rfl rfl) ?_
    refine WP.s .n (O.asg rfl) ?_
    refine WP.nil ?_
    refine QE.next ?_
    refine CW.ret ?_
    refine ST.told 4 rfl (is_eq (y := true) (decide_eq_true (congrArg Prod.snd hRR))) ?_
    exact QE.done (.inl rfl) rfl (ResOk.t rfl ResOk.nil) (OImp.sub (List.nil_sublist _)) ⟨rfl, rfl⟩

end Fw


/- Plain facts: sizes of what the statements are asked about. -/
set_option linter.unusedVariables false
namespace Fw
open Go

theorem Sz_ZB {z : Int} (h : ZB z) : Sz 33554432 z := by
  obtain ⟨n, hn, h⟩ := ZB_lt h
  exact Sz.up h hn
theorem SzL_ZB {u : List Int} (h : ∀ x ∈ u, ZB x) : SzL 33554432 u := fun i => by
  by_cases hi : i < u.length
  · exact Sz_ZB (h _ (getD_mem 0 hi))
  · rw [List.getD_eq_getElem?_getD, List.getElem?_eq_none (by omega)]; exact Sz.zero _
end Fw


/- Proved: QuadValues, for every input of bulk at most 1048576; no other condition. -/
set_option linter.unusedVariables false
namespace Go.Proofs.Ytgbafijcklgajaa.quadValues
open Go.ChangeShapes Go.WideShapes Go.ChangeAt Go.RowKit Fw
theorem rd31 : Rd Try.prog 31 kZ ZB := rd_Z (rd_struct (fs := [_, _]) Try.underlying31 (by kernel_rfl) (rdf_cons rfl (by kernel_rfl) (rd_bool Try.underlying4) rfl (rdf_last rfl (by kernel_rfl) (rd_sl Try.underlying29 (by kernel_rfl) (by decide) (rd_limb Try.underlying121)))))
theorem rd27 : Rd Try.prog 27 (kSl kZ) (fun xs => xs.length ≤ uptoN ∧ ∀ x ∈ xs, ZB x) := rd_sl Try.underlying27 (by kernel_rfl) (by decide) rd31
theorem rd67 : Rd Try.prog 67 (kSl (kSl kZ)) (fun xs => xs.length ≤ uptoN ∧ ∀ x ∈ xs, (fun xs => xs.length ≤ uptoN ∧ ∀ x ∈ xs, ZB x) x) := rd_sl Try.underlying67 (by kernel_rfl) (by decide) rd27
theorem own : ownKnob Try.prog.godebug = none := by kernel_rfl
theorem laidOut : laidOutB Try.prog = true := by kernel_rfl
set_option maxRecDepth 100000 in
theorem contract (H : Type) (enc : TypeId × Value → H) (W : World) (base : Nat) (args : Array Value) (ds gs : List (DataW H)) (before : List MemPlace)
    (hval : ∀ (j : Nat) t v, Try.f9.params[j]? = some t → args[j]? = some v → Value.okWide Try.prog W .any base t v)
    (hW : DataW.Whole enc Try.prog Try.f9.params.toList Rows.quadValuesSpec.vars false W args.toList ds gs before) (hk : Rows.uptoSmall H (ds ++ gs) = true) :
    Calls Try.prog 9 args W fun e W' => ∃ v, e = .returned v ∧ Rows.quadValuesSpec.post enc Try.prog Try.f9 false true false false W args v W' := by
  have hW' := hW
  obtain ⟨p, q, hA0, hV, rfl, hfz, hnd⟩ := hW
  have hA : DataW.TrodAll enc Try.prog W 0 (fun _ => true) true Try.f9.params.toList args.toList ds p := hA0
  rw [Try.params9] at hA hval
  obtain ⟨rfl, rfl⟩ := trodVars_none hV
  unfold Rows.uptoSmall at hk
  have hbulk := of_decide_eq_true hk
  rw [List.append_nil] at hbulk
  obtain ⟨v0, vs0, d0, ds0, p0, q0, hargs, rfl, rfl, h0, r0⟩ := trodAll_cons hA
  obtain ⟨v1, vs1, d1, ds1, p1, q1, rfl, rfl, rfl, h1, r1⟩ := trodAll_cons r0
  obtain ⟨rfl, rfl, rfl⟩ := trodAll_nil r1
  obtain rfl : args = [v0, v1].toArray := by cases args; simp_all
  simp only [Rows.uptoBulkAll] at hbulk
  obtain ⟨x0, a0, b0⟩ := arg_sl Try.underlying67 rd67 (hval 0 67 v0 rfl rfl) h0 (by unfold uptoN; omega)
  obtain ⟨x1, a1, b1⟩ := arg_sl Try.underlying27 rd27 (hval 1 27 v1 rfl rfl) h1 (by unfold uptoN; omega)
  refine ((c_law22_QuadValues x0 x1 (SzL_ZB b1.2)).calls (vs := [v0, v1]) ⟨a0, a1, trivial⟩).mono fun e W' ⟨he, bel⟩ => ?_
  subst he
  exact ⟨_, rfl, _, _, _, [], _, [], hW', trodAll_mk1 (shut_bool Try.underlying4 _), below_all laidOut bel (by kernel_rfl) hA0 (fun x hx => by simpa using hW'.lt x (by simpa using hx)), rfl, bel.frame _, fun h => by cases h⟩
set_option maxRecDepth 100000 in
theorem lifted (os : Os) (started : os.Started) (H : Type) (enc : TypeId × Value → H) (F : Stop.Interp) :
    ReturnsInHanded {} Try.checked os 9 .any ((Rows.OpenSpec.upto Rows.quadValuesSpec).pre6 enc Try.prog Try.f9 Rows.quadValuesUptoRow.domain false) (((Rows.OpenSpec.upto Rows.quadValuesSpec).at F).post enc Try.prog Try.f9 false true false false) := by
  refine returnsInHanded_of_cond (C := Try.checked) (s := Rows.OpenSpec.upto Rows.quadValuesSpec) (k := Rows.uptoSmall) rfl own started (by kernel_rfl) Try.func9
    (OpenSpec.witness (enc := enc) (C := Try.checked) (s := Rows.OpenSpec.upto Rows.quadValuesSpec) (k := Rows.uptoSmall) rfl false ⟨#[], #[.slice none 0 0, .slice none 0 0], []⟩ 8 (by kernel_rfl) (by kernel_rfl) (by kernel_rfl)
      (x := ([.nil, .nil], [], [])) (by kernel_rfl) rfl (by kernel_rfl)) ?_
  intro W base args ds gs before hval hW _ hk _
  exact contract H enc W base args ds gs before hval hW hk
theorem over : Rows.quadValuesUptoRow.holds Try.pinned (Rows.OpenSpec.upto Rows.quadValuesSpec) :=
  OpenClaim.holds_of_cond 9 Try.f9 rfl rfl rfl rfl rfl rfl rfl ⟨rfl, rfl, rfl, rfl, rfl⟩ rfl rfl rfl rfl rfl (by kernel_rfl) Try.func9 (by kernel_rfl)
    (of_decide_eq_true (by kernel_rfl)) (by unfold Func.isWrapper; first | (rw [if_pos (by decide +kernel)]; kernel_rfl) | (rw [if_neg (by decide +kernel)]; exact ⟨rfl, rfl⟩))
    (fun os started H enc _ F => lifted os started H enc F)
theorem proved : Rows.QuadValuesUptoSaid := over
end Go.Proofs.Ytgbafijcklgajaa.quadValues
