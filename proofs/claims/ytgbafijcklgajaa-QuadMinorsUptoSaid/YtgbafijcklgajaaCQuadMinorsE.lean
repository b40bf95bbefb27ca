/- Frame, facts and contracts for QuadMinors. -/
import Derived.Test.YtgbafijcklgajaaCQuadMinorsD
/- Plain facts: Gram-Schmidt data as triangles of numbers; what the program makes of them. -/
set_option linter.unusedVariables false
set_option linter.unusedSimpArgs false
set_option exponentiation.threshold 400
namespace Fw
open Go

theorem copy_all {α : Type} {ys xs : List α} (h : ys.length = xs.length) : ys.take (min ys.length xs.length) ++ xs.drop (min ys.length xs.length) = ys := by
  rw [h, Nat.min_self, ← h, List.take_length, h, List.drop_length, List.append_nil]
abbrev Fi := Nat → Nat → Int
def triR (n : Nat) (f : Fi) (x : Nat) : List Int := (List.range x).map (f x)
def tri (n : Nat) (f : Fi) : List (List Int) := (List.range n).map (triR n f)
theorem tri_len (n f) : (tri n f).length = n := by simp [tri]
theorem tri_row {n f x} (h : x < n) : (tri n f).getD x [] = triR n f x := by
  rw [gde _ [] (by rw [tri_len]; exact h)]; simp [tri]
theorem tri_rlen {n f x} (h : x < n) : ((tri n f).getD x []).length = x := by rw [tri_row h]; simp [triR]
theorem tri_at {n f x k} (h : x < n) (hk : k < x) : ((tri n f).getD x [])[k]? = some (f x k) := by rw [tri_row h]; simp [triR, hk]
theorem tri_get {n f x k} (h : x < n) (hk : k < x) : ((tri n f).getD x []).getD k 0 = f x k := by rw [List.getD_eq_getElem?_getD, tri_at h hk]; rfl
theorem tri_at2 {n f x k} {q : Int} (h : x < n) (hk : k < x) (e : f x k = q) : ((tri n f).getD x [])[k]? = some q := by rw [← e]; exact tri_at h hk
theorem Sz.fdiv {n : Nat} {x y : Int} (h : Sz n x) (hy : 0 < y) : Sz n (x.fdiv y) := by
  refine h.le ?_
  have h1 : (1 : Int) ≤ y := hy
  rw [Int.fdiv_eq_ediv_of_nonneg _ (by omega)]
  exact Int.natAbs_ediv_le_natAbs x y
theorem tri_congr {n} {f g : Fi} (h : ∀ x k, x < n → k < x → f x k = g x k) : tri n f = tri n g :=
  List.map_congr_left fun x hx => List.map_congr_left fun k hk => h x k (List.mem_range.1 hx) (List.mem_range.1 hk)
def updI (f : Fi) (i k : Nat) (q : Int) : Fi := fun a b => if a = i ∧ b = k then q else f a b
theorem tri_set {n f i k} (q : Int) (h : i < n) : (tri n f).set i (((tri n f).getD i []).set k q) = tri n (updI f i k q) := by
  apply List.ext_getElem
  · simp [tri]
  · intro a h1 h2
    rw [List.getElem_set]
    split
    · rename_i e
      subst e
      rw [tri_row h]
      apply List.ext_getElem
      · simp [tri, triR]
      · intro b h3 h4
        simp only [tri, triR, List.getElem_map, List.getElem_range, List.getElem_set, updI]
        by_cases e : k = b
        · subst e; rw [if_pos rfl, if_pos ⟨trivial, rfl⟩]
        · rw [if_neg e, if_neg (fun x => e x.2.symm)]
    · rename_i e
      simp only [tri, triR, List.getElem_map, List.getElem_range]
      apply List.map_congr_left
      intro b hb
      show f a b = (if a = i ∧ b = k then q else f a b)
      rw [if_neg (fun h : a = i ∧ b = k => e h.1.symm)]
def eF (G : Fi) : Fi := fun x k => uE G k x k
theorem gLs_tri (G n) : gLs G n = tri n (eF G) := rfl
/-- how far AddRow has come -/
def addF (G : Fi) (i j : Nat) (q : Int) (c : Nat) : Fi := fun x k => if x = i ∧ k = j then uE G j i j + q * uD G (j + 1) else if x = i ∧ k < c then uE G k i k + q * uE G k j k else uE G k x k
theorem addF_0 (G i j q) : updI (eF G) i j (uE G j i j + q * uD G (j + 1)) = addF G i j q 0 := by
  funext x k; unfold updI addF eF; simp
theorem addF_at {G i j q c} (h : c < j) : addF G i j q c i c = uE G c i c := by
  unfold addF; simp [show c ≠ j by omega]
theorem addF_s {G i j q c} (h : c < j) : updI (addF G i j q c) i c (uE G c i c + q * uE G c j c) = addF G i j q (c + 1) := by
  funext x k; unfold updI addF
  by_cases h1 : x = i
  · subst h1
    by_cases h2 : k = c
    · subst h2; simp [show k ≠ j by omega]
    · simp [h2, Nat.lt_succ_iff_lt_or_eq]
  · simp [h1]
theorem addF_end {G : Fi} {n i j : Nat} {q : Int} (hs : SymG G) (hp : PosU G n) (hij : j < i) (hi : i < n) : tri n (addF G i j q j) = gLs (rowI G i j q) n := by
  rw [gLs_tri]
  refine tri_congr fun x k hx hk => ?_
  unfold addF eF
  by_cases h1 : x = i
  · subst h1
    by_cases h2 : k = j
    · subst h2; simp [rowI_at hs hp hij hi]
    · by_cases h3 : k < j
      · simp [h2, h3, rowI_lo hs hp hij hi h3]
      · simp [h2, h3, rowI_hi hs hp hij (show j < k by omega) (show k ≤ x by omega) hx]
  · simp [h1, rowI_ne hs hp hij h1 (show k ≤ x by omega) hx]
theorem gDs_row {G : Fi} {n i j : Nat} {q : Int} (hs : SymG G) (hp : PosU G n) (hij : j < i) : gDs (rowI G i j q) n = gDs G n :=
  List.map_congr_left fun k hk => rowI_uD hs hp hij (by have := List.mem_range.1 hk; omega)
/-- how far Swap has come: the entries of the two rows, then of the rows below -/
def swF1 (G : Fi) (p c : Nat) : Fi := fun x k => if x = p ∧ k < c then uE G k (p + 1) k else if x = p + 1 ∧ k < c then uE G k p k else uE G k x k
def swA (G : Fi) (p x : Nat) : Int := (uD G p * uE G (p + 1) x (p + 1) + uE G p (p + 1) p * uE G p x p).fdiv (uD G (p + 1))
def swB (G : Fi) (p x : Nat) : Int := (uD G (p + 2) * uE G p x p + -(uE G p (p + 1) p) * uE G (p + 1) x (p + 1)).fdiv (uD G (p + 1))
def swD (G : Fi) (p : Nat) : Int := (uD G p * uD G (p + 2) + uE G p (p + 1) p * uE G p (p + 1) p).fdiv (uD G (p + 1))
def swF2 (G : Fi) (p c : Nat) : Fi := fun x k => if p + 1 < x ∧ x < c ∧ k = p then swA G p x else if p + 1 < x ∧ x < c ∧ k = p + 1 then swB G p x else swF1 G p p x k
theorem swF1_0 (G p) : eF G = swF1 G p 0 := by
  funext x k; unfold eF swF1; simp
theorem swF1_a {G p c} : swF1 G p c (p + 1) c = uE G c (p + 1) c := by unfold swF1; simp
theorem swF1_b {G p c} : swF1 G p c p c = uE G c p c := by unfold swF1; simp
theorem swF1_s {G p c} : updI (updI (swF1 G p c) p c (uE G c (p + 1) c)) (p + 1) c (uE G c p c) = swF1 G p (c + 1) := by
  funext x k; unfold updI swF1
  by_cases h1 : x = p + 1
  · subst h1
    by_cases h2 : k = c
    · subst h2; simp
    · simp [h2, Nat.lt_succ_iff_lt_or_eq]
  · by_cases h3 : x = p
    · subst h3
      by_cases h2 : k = c
      · subst h2; simp
      · simp [h2, Nat.lt_succ_iff_lt_or_eq]
    · simp [h1, h3]
theorem swF2_0 (G p) : swF1 G p p = swF2 G p (p + 2) := by
  funext x k; unfold swF2
  have h1 : ¬ (p + 1 < x ∧ x < p + 2) := by omega
  have h2 : ¬ (p + 1 < x ∧ x < p + 2 ∧ k = p) := fun h => h1 ⟨h.1, h.2.1⟩
  have h3 : ¬ (p + 1 < x ∧ x < p + 2 ∧ k = p + 1) := fun h => h1 ⟨h.1, h.2.1⟩
  rw [if_neg h2, if_neg h3]
theorem swF2_s {G p c} (hc : p + 1 < c) : updI (updI (swF2 G p c) c p (swA G p c)) c (p + 1) (swB G p c) = swF2 G p (c + 1) := by
  funext x k; unfold updI swF2
  by_cases h1 : x = c
  · subst h1
    by_cases h2 : k = p + 1
    · subst h2; simp [hc]
    · by_cases h3 : k = p
      · subst h3; simp [hc]
      · simp [h2, h3]
  · simp [h1, Nat.lt_succ_iff_lt_or_eq]
section
variable {G : Fi} {n p : Nat}
theorem uD_ne (hp : PosU G n) {k} (hk : k ≤ n) : uD G k ≠ 0 := by have := hp.uD hk; omega
theorem swD_eq (hs : SymG G) (hp : PosU G n) (h : p + 1 < n) : swD G p = uD (swpI G p) (p + 1) := fdiv_ex (uD_ne hp (by omega)) (swpI_D hs hp h).symm
theorem swA_eq (hs : SymG G) (hp : PosU G n) (h : p + 1 < n) {x} (hx : p + 1 < x) : swA G p x = uE (swpI G p) p x p := fdiv_ex (uD_ne hp (by omega)) (swpI_1 hs hp h hx).symm
theorem swB_eq (hs : SymG G) (hp : PosU G n) (h : p + 1 < n) {x} (hx : p + 1 < x) : swB G p x = uE (swpI G p) (p + 1) x (p + 1) := fdiv_ex (uD_ne hp (by omega)) (by rw [swpI_2 hs hp h hx]; rw [Int.neg_mul]; omega)
theorem swF2_end (hs : SymG G) (hp : PosU G n) (h : p + 1 < n) : tri n (swF2 G p n) = gLs (swpI G p) n := by
  rw [gLs_tri]
  refine tri_congr fun x k hx hk => ?_
  unfold eF swF2 swF1
  rcases Nat.lt_trichotomy x p with h1 | h1 | h1
  · simp [show ¬ p + 1 < x by omega, show x ≠ p by omega, show x ≠ p + 1 by omega, swpI_low hs hp h (show k ≤ x by omega) h1]
  · subst h1
    have e := swpI_lo hs hp h (x := x) hk (by omega)
    rw [sg_p] at e
    simp [hk, e, show ¬ x + 1 < x by omega]
  · by_cases h2 : x = p + 1
    · subst h2
      by_cases h3 : k < p
      · have e := swpI_lo hs hp h (x := p + 1) h3 (by omega)
        rw [sg_q] at e
        simp [h3, e]
      · have h4 : k = p := by omega
        subst h4
        simp [swpI_mid hs hp h]
    · have h3 : p + 1 < x := by omega
      by_cases h4 : k = p
      · subst h4; simp [h3, hx, swA_eq hs hp h h3]
      · by_cases h5 : k = p + 1
        · subst h5; simp [h3, hx, swB_eq hs hp h h3]
        · by_cases h6 : k < p
          · have e := swpI_lo hs hp h (x := x) h6 (by omega)
            rw [sg_ne (by omega) (by omega)] at e
            simp [h4, h5, show x ≠ p by omega, h2, e]
          · simp [h4, h5, show x ≠ p by omega, h2, swpI_hi hs hp h (show p + 2 ≤ k by omega) (show k ≤ x by omega) hx]
theorem gDs_swp (hs : SymG G) (hp : PosU G n) (h : p + 1 < n) : (gDs G n).set (p + 1) (swD G p) = gDs (swpI G p) n := by
  apply List.ext_getElem
  · simp [gDs]
  · intro k h1 h2
    simp only [gDs, List.getElem_set, List.getElem_map, List.getElem_range]
    by_cases e : p + 1 = k
    · subst e; rw [if_pos rfl, swD_eq hs hp h]
    · rw [if_neg e, swpI_uD hs hp h (by simp [gDs] at h2; omega) (fun x => e x.symm)]
theorem frM_rmk (hs : SymG G) (hp : PosU G n) {i j} (hij : j < i) (hi : i < n) : rmk (uE G j i j) (uD G (j + 1)) = rq (frM G i j) := by
  rw [frM_eq hs (hp.le (by omega)) (by omega), rmk_rq (uD_ne hp (by omega))]; rfl
theorem frS_rmk (hs : SymG G) (hp : PosU G n) {i} (hi : i < n) : rmk (uD G (i + 1)) (uD G i) = rq (frS G i) := by
  unfold frS
  rw [gsE_frac hs (hp.le (by omega)) (Nat.le_refl i) (Nat.le_refl i), rmk_rq (uD_ne hp (by omega))]; rfl
theorem gDs_Sm {B : Nat} (h : ∀ k, k ≤ n → Sz B (uD G k)) (hB : B ≤ 549755813888) : ∀ x, x ∈ gDs G n → Sm x := fun x hx => by
  obtain ⟨k, hk, rfl⟩ := List.mem_map.1 hx
  exact (h k (by have := List.mem_range.1 hk; omega)).sm hB
theorem gLs_Sm {B : Nat} (h : ∀ x k, x < n → k < x → Sz B (uE G k x k)) (hB : B ≤ 549755813888) : ∀ r, r ∈ gLs G n → ∀ x, x ∈ r → Sm x := fun r hr x hx => by
  obtain ⟨i, hi, rfl⟩ := List.mem_map.1 hr
  obtain ⟨k, hk, rfl⟩ := List.mem_map.1 hx
  exact (h i k (List.mem_range.1 hi) (List.mem_range.1 hk)).sm hB
end
end Fw


/- Gram-Schmidt data of the program under row operations. -/
set_option linter.unusedVariables false
set_option linter.unusedSimpArgs false
set_option exponentiation.threshold 400
namespace Fw
open Go Go.Proofs

set_option maxRecDepth 20000 in
set_option maxHeartbeats 1000000 in
theorem c_gso_good (G : Nat → Nat → Int) (n B : Nat) (h0 : 0 < n) (h12 : n ≤ 12) (hP : PosU G n) (hD : ∀ k, k ≤ n → Sz B (uD G k)) (hB : B ≤ 68719476736) : Fn Try.prog 229 [(kPair (kSl kC) (kSl (kSl kC))).is (gDs G n, gLs G n)] (kBool.is true) := by
  refine Con.enter Try.func229 rfl rfl fun m w => ?_
  have hn0 : 0 < n := h0
  have hLl : (gLs G n).length = n := gLs_len G n
  have hDl : (gDs G n).length = n + 1 := gDs_len G n
  refine CW.seq ?_
  refine CW.region ?_
  refine WP.bx .n rfl fun b1 => ?_
  refine WP.s .n (O.asg rfl) ?_
  refine WP.nil ?_
  refine QE.next ?_
  refine CW.seq ?_
  refine CW.seq ?_
  refine CW.draw (Γ := [.fr (VP.ex (.pointer (some ⟨b1, 1, none⟩))), .fr ((kSl (kSl kC)).is (gLs G n)), .fr ((kInt .i64).is ((gLs G n).length : Int)), .fr (kBool.is false), .fr (kBool.is false), .fr (VP.ex (.pointer (some ⟨b1, 0, none⟩))), .fr ((kSl kC).is (gDs G n)), .fr ((kInt .i64).is ((gDs G n).length : Int)), .fr (VP.ex (.pointer (some ⟨b1, 1, none⟩))), .fr ((kSl (kSl kC)).is (gLs G n)), .fr ((kInt .i64).is ((gLs G n).length : Int)), .fr ((kInt .i64).is (((gLs G n).length : Int) + 1)), .fr (kBool.is false), .fr (kBool.is false), .fr (kBool.is false), .fr (VP.ex (.pointer (some ⟨b1, 0, none⟩))), .fr ((kSl kC).is (gDs G n)), .fr (VP.pim kC (uD G 0)), .fr (kC.is (uD G 0)), .fr (kC.is 1), .fr ((kInt .i64).is (((uD G 0) - 1).sign)), .fr (kBool.is false), .fr (kBool.is false)]) (lates := [false, false, false, false, false, false, false, false, false, false, false, false, false, false, false, false, false, false, false, false, false, false, false]) (by kernel_rfl) (Chk.of rfl (by kernel_rfl) rfl) (fun _ _ _ _ _ h => h) (fun q_ x_ h_ => ?_) (fun σ1 => ?_)
  · match q_, h_ with
    | 0, h_ => cases h_; exact Ob.f rfl .n fun N => (O.fa rfl fld93_1 rfl)
    | 1, h_ => cases h_; exact Ob.f rfl .n fun N => (O.ld (p := (kSl (kSl kC)).is (gLs G n)) rfl (mem_app N (mem_at 0 rfl)) (Lens.snd (Lens.id _)) ty67 rfl)
    | 2, h_ => cases h_; exact Ob.f rfl .n fun N => (O.lenS rfl Try.underlying67)
    | 3, h_ => cases h_; exact Ob.f rfl .n fun N => (OpOk.le (O.eq rfl rfl) (is_eq (decide_eq_false (by rw [gLs_len]; omega))))
    | 4, h_ => cases h_; exact Ob.f rfl .n fun N => (O.mv rfl)
    | 5, h_ => cases h_; exact Ob.f rfl (.g rfl rfl) fun N => (O.fa rfl fld93_0 rfl)
    | 6, h_ => cases h_; exact Ob.f rfl (.g rfl rfl) fun N => (O.ld (p := (kSl kC).is (gDs G n)) rfl (mem_app N (mem_at 0 rfl)) (Lens.fst (Lens.id _)) ty27 rfl)
    | 7, h_ => cases h_; exact Ob.f rfl (.g rfl rfl) fun N => (O.lenS rfl Try.underlying27)
    | 8, h_ => cases h_; exact Ob.f rfl (.g rfl rfl) fun N => (O.fa rfl fld93_1 rfl)
    | 9, h_ => cases h_; exact Ob.f rfl (.g rfl rfl) fun N => (O.ld (p := (kSl (kSl kC)).is (gLs G n)) rfl (mem_app N (mem_at 0 rfl)) (Lens.snd (Lens.id _)) ty67 rfl)
    | 10, h_ => cases h_; exact Ob.f rfl (.g rfl rfl) fun N => (O.lenS rfl Try.underlying67)
    | 11, h_ => cases h_; exact Ob.f rfl (.g rfl rfl) fun N => (O.add rfl rfl (c := (((gLs G n).length : Int) + 1)) (w64 (by omega)))
    | 12, h_ => cases h_; exact Ob.f rfl (.g rfl rfl) fun N => (OpOk.le (O.ne rfl rfl) (is_eq (decide_eq_false (by rw [gLs_len, gDs_len]; omega))))
    | 13, h_ => cases h_; exact Ob.f rfl .n fun N => (O.pickF rfl rfl)
    | 14, h_ => cases h_; exact Ob.f rfl .n fun N => (O.mv rfl)
    | 15, h_ => cases h_; exact Ob.f rfl (.g rfl rfl) fun N => (O.fa rfl fld93_0 rfl)
    | 16, h_ => cases h_; exact Ob.f rfl (.g rfl rfl) fun N => (O.ld (p := (kSl kC).is (gDs G n)) rfl (mem_app N (mem_at 0 rfl)) (Lens.fst (Lens.id _)) ty27 rfl)
    | 17, h_ => cases h_; exact Ob.f rfl (.g rfl rfl) fun N => (O.ix 0 rfl rfl Try.underlying27 ty31 rfl (v := (uD G 0)) (gDs_at (by omega)))
    | 18, h_ => cases h_; exact Ob.f rfl (.g rfl rfl) fun N => (O.ldP rfl ty31)
    | 19, h_ => cases h_; exact Ob.f rfl (.g rfl rfl) fun N => (O.fn fn74 (evs.l rfl (i64_int (by omega)) evs.nil) (c_zint_Of 1))
    | 20, h_ => cases h_; exact Ob.f rfl (.g rfl rfl) fun N => (O.fn fn75 (evs.l rfl (kC_Z (by first | exact (hD 0 (by omega)).sm (by omega) | exact (hD (i + 1) (by omega)).sm (by omega) | exact Sm_lit (by decide))) (evs.l rfl (kC_Z (by first | exact (hD 0 (by omega)).sm (by omega) | exact (hD (i + 1) (by omega)).sm (by omega) | exact Sm_lit (by decide))) evs.nil)) (c_zint_Compare (uD G 0) 1))
    | 21, h_ => cases h_; exact Ob.f rfl (.g rfl rfl) fun N => (OpOk.le (O.ne rfl rfl) (is_eq (decide_eq_false (by show ¬ ((uD G 0 - 1).sign ≠ 0); simp [uD]))))
    | 22, h_ => cases h_; exact Ob.f rfl .n fun N => (O.pickF rfl rfl)
    | n_ + 23, h_ => simp at h_
  refine WP.nil ?_
  refine QE.next ?_
  refine CW.condF rfl ?_
  refine CW.skip ?_
  refine QE.next ?_
  refine CW.seq ?_
  refine CW.seq ?_
  refine CW.region ?_
  refine WP.s .n (O.fa rfl fld93_1 rfl) ?_
  refine WP.s .n (O.ld (p := (kSl (kSl kC)).is (gLs G n)) rfl (mem_at 0 rfl) (Lens.snd (Lens.id _)) ty67 rfl) ?_
  refine WP.s .n (O.lenS rfl Try.underlying67) ?_
  refine WP.s .n (O.mv rfl) ?_
  refine WP.nil ?_
  refine QE.next ?_
  refine CW.block ?_
  refine ST.told 30 rfl (is_eq (y := (n : Int)) (by rw [gLs_len])) ?_
  refine CW.loop (fun (i : Nat) => i ≤ n) (fun (i : Nat) => [(1, VP.ex (.pointer (some ⟨b1, 0, none⟩))), (29, (kSl (kSl kC)).is (gLs G n)), (30, (kInt .i64).is (n : Int)), (31, (kInt .i64).is (i : Int))]) (fun (i : Nat) => [OB.box b1 93 (kPair (kSl kC) (kSl (kSl kC))) (gDs G n, gLs G n)]) (fun (i : Nat) => n - i) 0 (by omega) (Imp.cons rfl (Imp.cons rfl (Imp.cons rfl (Imp.consLe rfl (is_eq (y := (0 : Int)) (by first | rfl | omega | assumption)) Imp.nil)))) (OImp.refl _) ?_
  intro i hi
  refine CW.seq ?_
  refine CW.region ?_
  refine WP.s .n (O.lt rfl rfl) ?_
  refine WP.nil ?_
  refine QE.next ?_
  refine CW.seq ?_
  refine CW.condD rfl (fun h_t32 => ?_) (fun h_t32 => ?_)
  · refine CW.skip ?_
    refine QE.next ?_
    refine CW.seq ?_
    refine CW.block ?_
    refine CW.seq ?_
    refine CW.region ?_
    refine WP.s .n (O.mv rfl) ?_
    refine WP.s .n (O.ix i rfl rfl Try.underlying67 ty27 rfl (v := ((gLs G n).getD i [])) (gd [] (by first | omega | (simp only [gRow_len, gDs_len, gLs_len]; omega)))) ?_
    refine WP.s .n (O.ldP rfl ty27) ?_
    refine WP.s .n (O.asg rfl) ?_
    refine WP.s .n (O.asg rfl) ?_
    refine WP.nil ?_
    refine QE.next ?_
    refine CW.seq ?_
    refine CW.region ?_
    refine WP.s .n (O.mv rfl) ?_
    refine WP.s .n (O.lenS rfl Try.underlying27) ?_
    refine WP.s .n (O.mv rfl) ?_
    refine WP.s .n (O.ne rfl rfl) ?_
    refine WP.s .n (O.mv rfl) ?_
    refine WP.splitD 40 rfl (fun h => absurd h (fun h => h (by rw [gLs_get (by omega), gRow_len]))) (fun h_t40 => ?_)
    refine WP.s (.g rfl rfl) (O.fa rfl fld93_0 rfl) ?_
    refine WP.s (.g rfl rfl) (O.ld (p := (kSl kC).is (gDs G n)) rfl (mem_at 0 rfl) (Lens.fst (Lens.id _)) ty27 rfl) ?_
    refine WP.s (.g rfl rfl) (O.mv rfl) ?_
    refine WP.s (.g rfl rfl) (O.add rfl rfl (c := ((i : Int) + 1)) (w64 (by omega))) ?_
    refine WP.s (.g rfl rfl) (O.ix ((((i : Int) + 1)).toNat) rfl rfl Try.underlying27 ty31 (by omega) (v := (uD G (i + 1))) (gDs_at (by omega))) ?_
    refine WP.s (.g rfl rfl) (O.ldP rfl ty31) ?_
    refine WP.s (.g rfl rfl) (O.fn fn80 (evs.l rfl (kC_Z (by first | exact (hD 0 (by omega)).sm (by omega) | exact (hD (i + 1) (by omega)).sm (by omega) | exact Sm_lit (by decide))) evs.nil) (c_zint_Sign (uD G (i + 1)))) ?_
    refine WP.s (.g rfl rfl) (O.le rfl rfl) ?_
    refine WP.s .n (O.pickF rfl rfl) ?_
    refine WP.nil ?_
    refine QE.next ?_
    refine CW.condD rfl (fun h => absurd h (by have h1 := hP i (by omega); have h2 := Int.sign_eq_one_of_pos h1; have h3 : uD G (i + 1) = uE G i i i := rfl; rw [h3]; omega)) (fun h_t49 => ?_)
    refine CW.skip ?_
    refine QE.blkN ?_
    refine QE.next ?_
    refine CW.region ?_
    refine WP.s .n (O.add rfl rfl (c := ((i : Int) + 1)) (w64 (by omega))) ?_
    refine WP.s .n (O.mv rfl) ?_
    refine WP.nil ?_
    exact QE.round (i + 1) (by omega) (by omega) (Imp.cons rfl (Imp.cons rfl (Imp.cons rfl (Imp.consLe rfl (is_eq (y := (((i + 1) : Nat) : Int)) (by first | rfl | omega | assumption)) Imp.nil)))) (OImp.refl _)
  · refine CW.exit ?_
    refine QE.thenE ?_
    refine QE.thenE ?_
    refine QE.blkH ?_
    refine QE.next ?_
    refine CW.seq ?_
    refine CW.region ?_
    refine WP.s .n (O.asg rfl) ?_
    refine WP.nil ?_
    refine QE.next ?_
    refine CW.ret ?_
    exact QE.done (.inl rfl) rfl (ResOk.t rfl ResOk.nil) (OImp.sub (List.nil_sublist _)) ⟨rfl, rfl⟩

set_option maxRecDepth 20000 in
set_option maxHeartbeats 1000000 in
theorem c_gso_Mu (G : Nat → Nat → Int) (n B : Nat) (h0 : 0 < n) (h12 : n ≤ 12) (hP : PosU G n) (hD : ∀ k, k ≤ n → Sz B (uD G k)) (hB : B ≤ 68719476736) (i j : Nat) (hj : j < i) (hi : i < n) (hs : SymG G) (hL : ∀ x k, x < n → k < x → Sz B (uE G k x k)) : Fn Try.prog 186 [(kPair (kSl kC) (kSl (kSl kC))).is (gDs G n, gLs G n), (kInt .i64).is (i : Int), (kInt .i64).is (j : Int)] (VP.tup [(kPair kC kC).is (rq (frM G i j)), (kInt .i64).is 0]) := by
  refine Con.enter Try.func186 rfl rfl fun m w => ?_
  refine CW.seq ?_
  refine CW.region ?_
  refine WP.bx .n rfl fun b1 => ?_
  refine WP.al .n z60_pr_C_C_ fun b2 => ?_
  refine WP.s .n (O.asg rfl) ?_
  refine WP.nil ?_
  refine QE.next ?_
  refine CW.seq ?_
  refine CW.block ?_
  refine CW.seq ?_
  refine CW.region ?_
  refine WP.s .n (O.ld (p := (kPair (kSl kC) (kSl (kSl kC))).is (gDs G n, gLs G n)) rfl (mem_at 1 rfl) (Lens.id _) ty93 rfl) ?_
  refine WP.s .n (O.fn fn229 (evs.c rfl evs.nil) (c_gso_good G n B (by assumption) (by assumption) (by assumption) (by assumption) (by assumption))) ?_
  refine WP.s .n (O.not (a := true) rfl) ?_
  refine WP.s .n (O.asg rfl) ?_
  refine WP.nil ?_
  refine QE.next ?_
  refine CW.condF rfl ?_
  refine CW.seq ?_
  refine CW.region ?_
  refine WP.s .n (O.mv rfl) ?_
  refine WP.s .n (O.lt rfl rfl) ?_
  refine WP.s .n (O.mv rfl) ?_
  refine WP.splitD 16 rfl (fun h => absurd h (by omega)) (fun h_t16 => ?_)
  refine WP.s (.g rfl rfl) (O.mv rfl) ?_
  refine WP.s (.g rfl rfl) (O.fa rfl fld93_1 rfl) ?_
  refine WP.s (.g rfl rfl) (O.ld (p := (kSl (kSl kC)).is (gLs G n)) rfl (mem_at 1 rfl) (Lens.snd (Lens.id _)) ty67 rfl) ?_
  refine WP.s (.g rfl rfl) (O.lenS rfl Try.underlying67) ?_
  refine WP.s (.g rfl rfl) (O.ge rfl rfl) ?_
  refine WP.s .n (O.pickF rfl rfl) ?_
  refine WP.s .n (O.mv rfl) ?_
  refine WP.splitD 23 rfl (fun h => absurd h (by rw [gLs_len]; omega)) (fun h_t23 => ?_)
  refine WP.s (.g rfl rfl) (O.mv rfl) ?_
  refine WP.s (.g rfl rfl) (O.lt rfl rfl) ?_
  refine WP.s .n (O.pickF rfl rfl) ?_
  refine WP.s .n (O.mv rfl) ?_
  refine WP.splitD 27 rfl (fun h => absurd h (by omega)) (fun h_t27 => ?_)
  refine WP.s (.g rfl rfl) (O.mv rfl) ?_
  refine WP.s (.g rfl rfl) (O.mv rfl) ?_
  refine WP.s (.g rfl rfl) (O.gt rfl rfl) ?_
  refine WP.s .n (O.pickF rfl rfl) ?_
  refine WP.s .n (O.asg rfl) ?_
  refine WP.nil ?_
  refine QE.next ?_
  refine CW.condD rfl (fun h => absurd h (by omega)) (fun h_t13 => ?_)
  refine CW.seq ?_
  refine CW.region ?_
  refine WP.s .n (O.mv rfl) ?_
  refine WP.s .n (O.mv rfl) ?_
  refine WP.s .n (O.eq rfl rfl) ?_
  refine WP.s .n (O.asg rfl) ?_
  refine WP.nil ?_
  refine QE.next ?_
  refine CW.condD rfl (fun h => absurd h (by omega)) (fun h_t33 => ?_)
  refine CW.skip ?_
  refine QE.blkN ?_
  refine QE.next ?_
  refine CW.seq ?_
  refine CW.draw (Γ := [.fr (VP.ex (.pointer (some ⟨b1, 1, none⟩))), .fr ((kSl (kSl kC)).is (gLs G n)), .fr ((kInt .i64).is (i : Int)), .fr (VP.pim (kSl kC) ((gLs G n).getD i [])), .fr ((kSl kC).is ((gLs G n).getD i [])), .fr ((kInt .i64).is (j : Int)), .fr (VP.pim kC (uE G j i j)), .fr (kC.is (uE G j i j)), .fr (VP.ex (.pointer (some ⟨b1, 0, none⟩))), .fr ((kSl kC).is (gDs G n)), .fr ((kInt .i64).is (j : Int)), .fr ((kInt .i64).is ((j : Int) + 1)), .fr (VP.pim kC (uD G (j + 1))), .fr (kC.is (uD G (j + 1))), .fr (VP.tup [(kPair kC kC).is (rq (frM G i j)), (kInt .i64).is 0]), .fr ((kPair kC kC).is (rq (frM G i j))), .fr ((kInt .i64).is 0)]) (lates := [false, false, false, false, false, false, false, false, false, false, false, false, false, false, false, false, false]) (by kernel_rfl) (Chk.of rfl (by kernel_rfl) rfl) (fun _ _ _ _ _ h => h) (fun q_ x_ h_ => ?_) (fun σ1 => ?_)
  · match q_, h_ with
    | 0, h_ => cases h_; exact Ob.f rfl .n fun N => (O.fa rfl fld93_1 rfl)
    | 1, h_ => cases h_; exact Ob.f rfl .n fun N => (O.ld (p := (kSl (kSl kC)).is (gLs G n)) rfl (mem_app N (mem_at 1 rfl)) (Lens.snd (Lens.id _)) ty67 rfl)
    | 2, h_ => cases h_; exact Ob.f rfl .n fun N => (O.mv rfl)
    | 3, h_ => cases h_; exact Ob.f rfl .n fun N => (O.ix i rfl rfl Try.underlying67 ty27 rfl (v := ((gLs G n).getD i [])) (gd [] (by first | omega | (simp only [gRow_len, gDs_len, gLs_len]; omega))))
    | 4, h_ => cases h_; exact Ob.f rfl .n fun N => (O.ldP rfl ty27)
    | 5, h_ => cases h_; exact Ob.f rfl .n fun N => (O.mv rfl)
    | 6, h_ => cases h_; exact Ob.f rfl .n fun N => (O.ix j rfl rfl Try.underlying27 ty31 rfl (v := (uE G j i j)) (gLs_at (by omega) (by omega)))
    | 7, h_ => cases h_; exact Ob.f rfl .n fun N => (O.ldP rfl ty31)
    | 8, h_ => cases h_; exact Ob.f rfl .n fun N => (O.fa rfl fld93_0 rfl)
    | 9, h_ => cases h_; exact Ob.f rfl .n fun N => (O.ld (p := (kSl kC).is (gDs G n)) rfl (mem_app N (mem_at 1 rfl)) (Lens.fst (Lens.id _)) ty27 rfl)
    | 10, h_ => cases h_; exact Ob.f rfl .n fun N => (O.mv rfl)
    | 11, h_ => cases h_; exact Ob.f rfl .n fun N => (O.add rfl rfl (c := ((j : Int) + 1)) (w64 (by omega)))
    | 12, h_ => cases h_; exact Ob.f rfl .n fun N => (O.ix ((((j : Int) + 1)).toNat) rfl rfl Try.underlying27 ty31 (by omega) (v := (uD G (j + 1))) (gDs_at (by omega)))
    | 13, h_ => cases h_; exact Ob.f rfl .n fun N => (O.ldP rfl ty31)
    | 14, h_ => cases h_; exact Ob.f rfl .n fun N => (OpOk.le (O.fn fn97 (evs.l rfl (kC_Z (by first | exact (hL i j (by omega) (by omega)).sm (by omega) | exact (hD (j + 1) (by omega)).sm (by omega))) (evs.l rfl (kC_Z (by first | exact (hL i j (by omega) (by omega)).sm (by omega) | exact (hD (j + 1) (by omega)).sm (by omega))) evs.nil)) (c_rat_Make (uE G j i j) (uD G (j + 1)))) (tup_le (tup_cons (is_eq (by rw [if_neg (uD_ne hP (by omega)), frM_rmk hs hP hj hi])) (tup_cons (is_eq (if_neg (uD_ne hP (by omega)))) tup_nil))))
    | 15, h_ => cases h_; exact Ob.f rfl .n fun N => (O.ext rfl rfl)
    | 16, h_ => cases h_; exact Ob.f rfl .n fun N => (O.ext rfl rfl)
    | n_ + 17, h_ => simp at h_
  refine WP.t .n (O.stW (l := (kPair kC kC)) (u := rq (frM G i j)) 0 rfl rfl rfl ty60 rfl (VP.le_refl _)) ?_
  refine WP.s .n (O.asg rfl) ?_
  refine WP.nil ?_
  refine QE.next ?_
  refine CW.ret ?_
  exact QE.done (.inl rfl) rfl (ResOk.c rfl (mem_at 0 rfl) ty60 (ResOk.t rfl ResOk.nil)) (OImp.sub (List.nil_sublist _)) ⟨rfl, rfl⟩

set_option maxRecDepth 20000 in
set_option maxHeartbeats 1000000 in
theorem c_gso_Star (G : Nat → Nat → Int) (n B : Nat) (h0 : 0 < n) (h12 : n ≤ 12) (hP : PosU G n) (hD : ∀ k, k ≤ n → Sz B (uD G k)) (hB : B ≤ 68719476736) (i : Nat) (hi : i < n) (hs : SymG G) : Fn Try.prog 238 [(kPair (kSl kC) (kSl (kSl kC))).is (gDs G n, gLs G n), (kInt .i64).is (i : Int)] (VP.tup [(kPair kC kC).is (rq (frS G i)), (kInt .i64).is 0]) := by
  refine Con.enter Try.func238 rfl rfl fun m w => ?_
  refine CW.seq ?_
  refine CW.region ?_
  refine WP.bx .n rfl fun b1 => ?_
  refine WP.al .n z60_pr_C_C_ fun b2 => ?_
  refine WP.s .n (O.asg rfl) ?_
  refine WP.nil ?_
  refine QE.next ?_
  refine CW.seq ?_
  refine CW.seq ?_
  refine CW.region ?_
  refine WP.s .n (O.ld (p := (kPair (kSl kC) (kSl (kSl kC))).is (gDs G n, gLs G n)) rfl (mem_at 1 rfl) (Lens.id _) ty93 rfl) ?_
  refine WP.s .n (O.fn fn229 (evs.c rfl evs.nil) (c_gso_good G n B (by assumption) (by assumption) (by assumption) (by assumption) (by assumption))) ?_
  refine WP.s .n (O.not (a := true) rfl) ?_
  refine WP.nil ?_
  refine QE.next ?_
  refine CW.condF rfl ?_
  refine CW.skip ?_
  refine QE.next ?_
  refine CW.seq ?_
  refine CW.seq ?_
  refine CW.region ?_
  refine WP.s .n (O.mv rfl) ?_
  refine WP.s .n (O.lt rfl rfl) ?_
  refine WP.s .n (O.mv rfl) ?_
  refine WP.splitD 12 rfl (fun h => absurd h (by omega)) (fun h_t12 => ?_)
  refine WP.s (.g rfl rfl) (O.mv rfl) ?_
  refine WP.s (.g rfl rfl) (O.fa rfl fld93_1 rfl) ?_
  refine WP.s (.g rfl rfl) (O.ld (p := (kSl (kSl kC)).is (gLs G n)) rfl (mem_at 1 rfl) (Lens.snd (Lens.id _)) ty67 rfl) ?_
  refine WP.s (.g rfl rfl) (O.lenS rfl Try.underlying67) ?_
  refine WP.s (.g rfl rfl) (O.ge rfl rfl) ?_
  refine WP.s .n (O.pickF rfl rfl) ?_
  refine WP.nil ?_
  refine QE.next ?_
  refine CW.condD rfl (fun h => absurd h (by rw [gLs_len]; omega)) (fun h_t18 => ?_)
  refine CW.skip ?_
  refine QE.next ?_
  refine CW.seq ?_
  refine CW.draw (Γ := [.fr (VP.ex (.pointer (some ⟨b1, 0, none⟩))), .fr ((kSl kC).is (gDs G n)), .fr ((kInt .i64).is (i : Int)), .fr ((kInt .i64).is ((i : Int) + 1)), .fr (VP.pim kC (uD G (i + 1))), .fr (kC.is (uD G (i + 1))), .fr (VP.ex (.pointer (some ⟨b1, 0, none⟩))), .fr ((kSl kC).is (gDs G n)), .fr ((kInt .i64).is (i : Int)), .fr (VP.pim kC (uD G i)), .fr (kC.is (uD G i)), .fr (VP.tup [(kPair kC kC).is (rq (frS G i)), (kInt .i64).is 0]), .fr ((kPair kC kC).is (rq (frS G i))), .fr ((kInt .i64).is 0)]) (lates := [false, false, false, false, false, false, false, false, false, false, false, false, false, false]) (by kernel_rfl) (Chk.of rfl (by kernel_rfl) rfl) (fun _ _ _ _ _ h => h) (fun q_ x_ h_ => ?_) (fun σ1 => ?_)
  · match q_, h_ with
    | 0, h_ => cases h_; exact Ob.f rfl .n fun N => (O.fa rfl fld93_0 rfl)
    | 1, h_ => cases h_; exact Ob.f rfl .n fun N => (O.ld (p := (kSl kC).is (gDs G n)) rfl (mem_app N (mem_at 1 rfl)) (Lens.fst (Lens.id _)) ty27 rfl)
    | 2, h_ => cases h_; exact Ob.f rfl .n fun N => (O.mv rfl)
    | 3, h_ => cases h_; exact Ob.f rfl .n fun N => (O.add rfl rfl (c := ((i : Int) + 1)) (w64 (by omega)))
    | 4, h_ => cases h_; exact Ob.f rfl .n fun N => (O.ix ((((i : Int) + 1)).toNat) rfl rfl Try.underlying27 ty31 (by omega) (v := (uD G (i + 1))) (gDs_at (by omega)))
    | 5, h_ => cases h_; exact Ob.f rfl .n fun N => (O.ldP rfl ty31)
    | 6, h_ => cases h_; exact Ob.f rfl .n fun N => (O.fa rfl fld93_0 rfl)
    | 7, h_ => cases h_; exact Ob.f rfl .n fun N => (O.ld (p := (kSl kC).is (gDs G n)) rfl (mem_app N (mem_at 1 rfl)) (Lens.fst (Lens.id _)) ty27 rfl)
    | 8, h_ => cases h_; exact Ob.f rfl .n fun N => (O.mv rfl)
    | 9, h_ => cases h_; exact Ob.f rfl .n fun N => (O.ix i rfl rfl Try.underlying27 ty31 rfl (v := (uD G i)) (gDs_at (by omega)))
    | 10, h_ => cases h_; exact Ob.f rfl .n fun N => (O.ldP rfl ty31)
    | 11, h_ => cases h_; exact Ob.f rfl .n fun N => (OpOk.le (O.fn fn97 (evs.l rfl (kC_Z (by first | exact (hD (i + 1) (by omega)).sm (by omega) | exact (hD i (by omega)).sm (by omega))) (evs.l rfl (kC_Z (by first | exact (hD (i + 1) (by omega)).sm (by omega) | exact (hD i (by omega)).sm (by omega))) evs.nil)) (c_rat_Make (uD G (i + 1)) (uD G i))) (tup_le (tup_cons (is_eq (by rw [if_neg (uD_ne hP (by omega)), frS_rmk hs hP hi])) (tup_cons (is_eq (if_neg (uD_ne hP (by omega)))) tup_nil))))
    | 12, h_ => cases h_; exact Ob.f rfl .n fun N => (O.ext rfl rfl)
    | 13, h_ => cases h_; exact Ob.f rfl .n fun N => (O.ext rfl rfl)
    | n_ + 14, h_ => simp at h_
  refine WP.t .n (O.stW (l := (kPair kC kC)) (u := rq (frS G i)) 0 rfl rfl rfl ty60 rfl (VP.le_refl _)) ?_
  refine WP.s .n (O.asg rfl) ?_
  refine WP.nil ?_
  refine QE.next ?_
  refine CW.ret ?_
  exact QE.done (.inl rfl) rfl (ResOk.c rfl (mem_at 0 rfl) ty60 (ResOk.t rfl ResOk.nil)) (OImp.sub (List.nil_sublist _)) ⟨rfl, rfl⟩

set_option maxRecDepth 20000 in
set_option maxHeartbeats 1000000 in
theorem c_mat_eachII (fid : FuncId) (caps : List VP) (F : Int → Int) (l : List Int) (hok : FnOk Try.prog fid) (hF : ∀ x, x ∈ l → Fn Try.prog fid (kZ.is x :: caps) (kC.is (F x))) : Fn Try.prog 236 [(kSl kZ).is l, VP.clo fid caps] ((kSl kC).is (l.map F)) := by
  refine Con.enter Try.func236 rfl rfl fun m w => ?_
  refine ST.fact (i := 0) rfl sl_len fun hB => ?_
  refine CW.seq ?_
  refine CW.region ?_
  refine WP.s .n (O.asg rfl) ?_
  refine WP.nil ?_
  refine QE.next ?_
  refine CW.seq ?_
  refine CW.region ?_
  refine WP.s .n (O.mv rfl) ?_
  refine WP.s .n (O.lenS rfl Try.underlying27) ?_
  refine WP.mk0 l.length .n rfl rfl rfl (by omega) Try.underlying27 el31_C z31_C fun v1 => ?_
  refine WP.s .n (O.asg rfl) ?_
  refine WP.nil ?_
  refine QE.next ?_
  refine CW.seq ?_
  refine CW.seq ?_
  refine CW.region ?_
  refine WP.s .n (O.mv rfl) ?_
  refine WP.s .n (O.lenS rfl Try.underlying27) ?_
  refine WP.s .n (O.mv rfl) ?_
  refine WP.nil ?_
  refine QE.next ?_
  refine CW.block ?_
  refine CW.loop2 (fun (i : Nat) (v : Value) => i ≤ l.length) (fun (i : Nat) (v : Value) => [(0, (kSl kZ).is l), (1, VP.clo fid caps), (5, VP.ex v), (11, (kSl kZ).is l), (12, (kInt .i64).is (l.length : Int)), (13, (kInt .i64).is (i : Int))]) (fun (i : Nat) (v : Value) => [OB.row v 31 kC ((l.take i).map F)]) (fun (i : Nat) (v : Value) => l.length - i) 0 v1 (by omega) (Imp.cons rfl (Imp.cons rfl (Imp.cons rfl (Imp.cons rfl (Imp.cons rfl (Imp.consLe rfl (is_eq (y := (0 : Int)) (by first | rfl | omega | assumption)) Imp.nil)))))) (OImp.os (OS.keepLe (OB.row_eq (by first | rfl | omega | assumption)) OS.nil)) ?_
  intro i v hi
  refine CW.seq ?_
  refine CW.region ?_
  refine WP.s .n (O.lt rfl rfl) ?_
  refine WP.nil ?_
  refine QE.next ?_
  refine CW.seq ?_
  refine CW.condD rfl (fun h_t14 => ?_) (fun h_t14 => ?_)
  · refine CW.skip ?_
    refine QE.next ?_
    refine CW.seq ?_
    refine CW.block ?_
    refine CW.seq ?_
    refine CW.region ?_
    refine WP.s .n (O.ix i rfl rfl Try.underlying27 ty31 rfl (v := (l.getD i 0)) (gd 0 (by omega))) ?_
    refine WP.s .n (O.ldP rfl ty31) ?_
    refine WP.al .n z31_Z fun b2 => ?_
    refine WP.t .n (O.stW (l := kZ) (u := (l.getD i 0)) 0 rfl rfl rfl ty31 rfl (VP.le_refl _)) ?_
    refine WP.nil ?_
    refine QE.next ?_
    refine CW.region ?_
    refine WP.s .n (O.mv rfl) ?_
    refine WP.s .n (O.mv rfl) ?_
    refine WP.s .n (O.ld rfl (mem_at 0 rfl) (Lens.id _) ty31 rfl) ?_
    refine WP.s .n (O.clo rfl hok (evs.c rfl evs.nil) (hF _ (getD_mem 0 (by omega)))) ?_
    refine WP.s .n (O.bs Try.underlying27 el31_C (evl.c rfl evl.n) rfl (by decide)) ?_
    refine WP.ap 1 .n rfl rfl rfl (VP.le_refl _) Try.underlying27 el31_C (by simp; omega) fun v3 => ?_
    refine WP.s .n (O.asg rfl) ?_
    refine WP.nil ?_
    refine QE.blkN ?_
    refine QE.next ?_
    refine CW.region ?_
    refine WP.s .n (O.add rfl rfl (c := ((i : Int) + 1)) (w64 (by omega))) ?_
    refine WP.s .n (O.mv rfl) ?_
    refine WP.nil ?_
    refine ST.obtold 1 rfl (OB.row_eq (ys := ((l.take (i + 1)).map F)) (map_take_app (by omega))) ?_
    exact QE.round2 (i + 1) v3 (by omega) (by omega) (Imp.cons rfl (Imp.cons rfl (Imp.cons rfl (Imp.cons rfl (Imp.cons rfl (Imp.consLe rfl (is_eq (y := (((i + 1) : Nat) : Int)) (by first | rfl | omega | assumption)) Imp.nil)))))) (OImp.os (OS.skip (OS.keep OS.nil)))
  · refine CW.exit ?_
    refine QE.thenE ?_
    refine QE.thenE ?_
    refine QE.blkH ?_
    refine QE.next ?_
    refine CW.seq ?_
    refine CW.region ?_
    refine WP.s .n (O.mv rfl) ?_
    refine WP.s .n (O.asg rfl) ?_
    refine WP.nil ?_
    refine QE.next ?_
    refine CW.ret ?_
    refine ST.freeze 0 rfl (.keep (i := 0) rfl (.keep (i := 1) rfl (.hit (i := 4) rfl (.hit (i := 5) rfl (.keep (i := 11) rfl (.keep (i := 12) rfl (.keep (i := 13) rfl (.keep (i := 14) rfl (.hit (i := 24) rfl .nil))))))))) ?_
    refine ST.told 4 rfl (is_eq (y := (l.map F)) (by rw [List.take_of_length_le (by omega)])) ?_
    exact QE.done (.inl rfl) rfl (ResOk.t rfl ResOk.nil) (OImp.sub (List.nil_sublist _)) ⟨rfl, rfl⟩

set_option maxRecDepth 20000 in
set_option maxHeartbeats 1000000 in
theorem c_mat_eachIIo (fid : FuncId) (caps : List VP) (F : Int → Int) (l : List Int) (hok : FnOk Try.prog fid) (hF : ∀ x, x ∈ l → Fn Try.prog fid (kZ.is x :: caps) (kC.is (F x))) : Con Try.prog 236 [(kSl kZ).is l, VP.clo fid caps] [] (fun p Lo => ∃ (v : Value), p = VP.ex v ∧ Lo = [OB.row v 31 kC (l.map F)] ∧ True) := by
  refine Con.enter Try.func236 rfl rfl fun m w => ?_
  refine ST.fact (i := 0) rfl sl_len fun hB => ?_
  refine CW.seq ?_
  refine CW.region ?_
  refine WP.s .n (O.asg rfl) ?_
  refine WP.nil ?_
  refine QE.next ?_
  refine CW.seq ?_
  refine CW.region ?_
  refine WP.s .n (O.mv rfl) ?_
  refine WP.s .n (O.lenS rfl Try.underlying27) ?_
  refine WP.mk0 l.length .n rfl rfl rfl (by omega) Try.underlying27 el31_C z31_C fun v1 => ?_
  refine WP.s .n (O.asg rfl) ?_
  refine WP.nil ?_
  refine QE.next ?_
  refine CW.seq ?_
  refine CW.seq ?_
  refine CW.region ?_
  refine WP.s .n (O.mv rfl) ?_
  refine WP.s .n (O.lenS rfl Try.underlying27) ?_
  refine WP.s .n (O.mv rfl) ?_
  refine WP.nil ?_
  refine QE.next ?_
  refine CW.block ?_
  refine CW.loop2 (fun (i : Nat) (v : Value) => i ≤ l.length) (fun (i : Nat) (v : Value) => [(0, (kSl kZ).is l), (1, VP.clo fid caps), (5, VP.ex v), (11, (kSl kZ).is l), (12, (kInt .i64).is (l.length : Int)), (13, (kInt .i64).is (i : Int))]) (fun (i : Nat) (v : Value) => [OB.row v 31 kC ((l.take i).map F)]) (fun (i : Nat) (v : Value) => l.length - i) 0 v1 (by omega) (Imp.cons rfl (Imp.cons rfl (Imp.cons rfl (Imp.cons rfl (Imp.cons rfl (Imp.consLe rfl (is_eq (y := (0 : Int)) (by first | rfl | omega | assumption)) Imp.nil)))))) (OImp.os (OS.keepLe (OB.row_eq (by first | rfl | omega | assumption)) OS.nil)) ?_
  intro i v hi
  refine CW.seq ?_
  refine CW.region ?_
  refine WP.s .n (O.lt rfl rfl) ?_
  refine WP.nil ?_
  refine QE.next ?_
  refine CW.seq ?_
  refine CW.condD rfl (fun h_t14 => ?_) (fun h_t14 => ?_)
  · refine CW.skip ?_
    refine QE.next ?_
    refine CW.seq ?_
    refine CW.block ?_
    refine CW.seq ?_
    refine CW.region ?_
    refine WP.s .n (O.ix i rfl rfl Try.underlying27 ty31 rfl (v := (l.getD i 0)) (gd 0 (by omega))) ?_
    refine WP.s .n (O.ldP rfl ty31) ?_
    refine WP.al .n z31_Z fun b2 => ?_
    refine WP.t .n (O.stW (l := kZ) (u := (l.getD i 0)) 0 rfl rfl rfl ty31 rfl (VP.le_refl _)) ?_
    refine WP.nil ?_
    refine QE.next ?_
    refine CW.region ?_
    refine WP.s .n (O.mv rfl) ?_
    refine WP.s .n (O.mv rfl) ?_
    refine WP.s .n (O.ld rfl (mem_at 0 rfl) (Lens.id _) ty31 rfl) ?_
    refine WP.s .n (O.clo rfl hok (evs.c rfl evs.nil) (hF _ (getD_mem 0 (by omega)))) ?_
    refine WP.s .n (O.bs Try.underlying27 el31_C (evl.c rfl evl.n) rfl (by decide)) ?_
    refine WP.ap 1 .n rfl rfl rfl (VP.le_refl _) Try.underlying27 el31_C (by simp; omega) fun v3 => ?_
    refine WP.s .n (O.asg rfl) ?_
    refine WP.nil ?_
    refine QE.blkN ?_
    refine QE.next ?_
    refine CW.region ?_
    refine WP.s .n (O.add rfl rfl (c := ((i : Int) + 1)) (w64 (by omega))) ?_
    refine WP.s .n (O.mv rfl) ?_
    refine WP.nil ?_
    refine ST.obtold 1 rfl (OB.row_eq (ys := ((l.take (i + 1)).map F)) (map_take_app (by omega))) ?_
    exact QE.round2 (i + 1) v3 (by omega) (by omega) (Imp.cons rfl (Imp.cons rfl (Imp.cons rfl (Imp.cons rfl (Imp.cons rfl (Imp.consLe rfl (is_eq (y := (((i + 1) : Nat) : Int)) (by first | rfl | omega | assumption)) Imp.nil)))))) (OImp.os (OS.skip (OS.keep OS.nil)))
  · refine CW.exit ?_
    refine QE.thenE ?_
    refine QE.thenE ?_
    refine QE.blkH ?_
    refine QE.next ?_
    refine CW.seq ?_
    refine CW.region ?_
    refine WP.s .n (O.mv rfl) ?_
    refine WP.s .n (O.asg rfl) ?_
    refine WP.nil ?_
    refine QE.next ?_
    refine CW.ret ?_
    refine ST.obtold 0 rfl (OB.row_eq (ys := (l.map F)) (by rw [List.take_of_length_le (by omega)])) ?_
    exact QE.done (.inl rfl) rfl (ResOk.t rfl ResOk.nil) (OImp.refl _) ⟨v, rfl, rfl, trivial⟩

set_option maxRecDepth 20000 in
set_option maxHeartbeats 1000000 in
theorem c_mat_Form1 (l : List Int) (hl : ∀ x, x ∈ l → Sm x) : Fn Try.prog 266 [(kSl kZ).is l] ((kSl kC).is l) := by
  refine Con.enter Try.func266 rfl rfl fun m w => ?_
  refine CW.seq ?_
  refine CW.region ?_
  refine WP.s .n (O.asg rfl) ?_
  refine WP.nil ?_
  refine QE.next ?_
  refine CW.seq ?_
  refine CW.region ?_
  refine WP.s .n (O.mv rfl) ?_
  refine WP.s .n (O.fn fn236 (evs.c rfl (evs.l rfl clo_fv evs.nil)) (c_mat_eachII 146 [] (fun x => x) l fn146 (fun x _ => c_zint_Form x))) ?_
  refine WP.s .n (O.asg rfl) ?_
  refine WP.nil ?_
  refine QE.next ?_
  refine CW.ret ?_
  refine ST.told 2 rfl (is_eq (y := l) (by simp)) ?_
  exact QE.done (.inl rfl) rfl (ResOk.t rfl ResOk.nil) (OImp.sub (List.nil_sublist _)) ⟨rfl, rfl⟩

set_option maxRecDepth 20000 in
set_option maxHeartbeats 1000000 in
theorem c_mat_Form1o (l : List Int) : Con Try.prog 266 [(kSl kZ).is l] [] (fun p Lo => ∃ (v : Value), p = VP.ex v ∧ Lo = [OB.row v 31 kC l] ∧ True) := by
  refine Con.enter Try.func266 rfl rfl fun m w => ?_
  refine CW.seq ?_
  refine CW.region ?_
  refine WP.s .n (O.asg rfl) ?_
  refine WP.nil ?_
  refine QE.next ?_
  refine CW.seq ?_
  refine CW.region ?_
  refine WP.s .n (O.mv rfl) ?_
  refine WP.call (Li := []) (L := []) .n fn236 (evs.c rfl (evs.l rfl clo_fv evs.nil)) (c_mat_eachIIo 146 [] (fun x => x) l fn146 (fun x _ => c_zint_Form x)) fun p_ Lo_ hp_ => ?_
  obtain ⟨v1, rfl, rfl, hx_t4⟩ := hp_
  refine WP.s .n (O.asg rfl) ?_
  refine WP.nil ?_
  refine QE.next ?_
  refine CW.ret ?_
  refine ST.obtold 0 rfl (OB.row_eq (ys := l) (by simp)) ?_
  exact QE.done (.inl rfl) rfl (ResOk.t rfl ResOk.nil) (OImp.refl _) ⟨v1, rfl, rfl, trivial⟩

set_option maxRecDepth 20000 in
set_option maxHeartbeats 1000000 in
theorem c_mat_eachRRo (fid : FuncId) (caps : List VP) (F : List Int → List Int) (l : List (List Int)) (hok : FnOk Try.prog fid) (hF : ∀ x, x ∈ l → Con Try.prog fid ((kSl kZ).is x :: caps) [] (fun p Lo => ∃ u : Value, p = VP.ex u ∧ Lo = [OB.row u 31 kC (F x)] ∧ True)) : Con Try.prog 136 [(kSl (kSl kZ)).is l, VP.clo fid caps] [] (fun p Lo => ∃ (v : Value) (vs : List Value), p = VP.ex v ∧ Lo = [OB.row v 27 kVal vs, OB.fam vs 31 kC (l.map F)] ∧ vs.length = l.length) := by
  refine Con.enter Try.func136 rfl rfl fun m w => ?_
  refine ST.fact (i := 0) rfl sl_len fun hB => ?_
  refine CW.seq ?_
  refine CW.region ?_
  refine WP.s .n (O.asg rfl) ?_
  refine WP.nil ?_
  refine QE.next ?_
  refine CW.seq ?_
  refine CW.region ?_
  refine WP.s .n (O.mv rfl) ?_
  refine WP.s .n (O.lenS rfl Try.underlying67) ?_
  refine WP.mk0 l.length .n rfl rfl rfl (by omega) Try.underlying67 el27_val z27_val fun v1 => ?_
  refine WP.s .n (O.asg rfl) ?_
  refine WP.nil ?_
  refine QE.next ?_
  refine CW.seq ?_
  refine CW.seq ?_
  refine CW.region ?_
  refine WP.s .n (O.mv rfl) ?_
  refine WP.s .n (O.lenS rfl Try.underlying67) ?_
  refine WP.s .n (O.mv rfl) ?_
  refine WP.nil ?_
  refine QE.next ?_
  refine CW.block ?_
  refine ST.famnil 31 kC ?_
  refine CW.loop3 (fun (i : Nat) (v : Value) (vs : List Value) => i ≤ l.length ∧ vs.length = i) (fun (i : Nat) (v : Value) (vs : List Value) => [(0, (kSl (kSl kZ)).is l), (1, VP.clo fid caps), (5, VP.ex v), (11, (kSl (kSl kZ)).is l), (12, (kInt .i64).is (l.length : Int)), (13, (kInt .i64).is (i : Int))]) (fun (i : Nat) (v : Value) (vs : List Value) => [OB.fam vs 31 kC ((l.take i).map F), OB.row v 27 kVal vs]) (fun (i : Nat) (v : Value) (vs : List Value) => l.length - i) 0 v1 [] ⟨Nat.zero_le _, rfl⟩ (Imp.cons rfl (Imp.cons rfl (Imp.cons rfl (Imp.cons rfl (Imp.cons rfl (Imp.consLe rfl (is_eq (y := (0 : Int)) (by first | rfl | omega | assumption)) Imp.nil)))))) (OImp.os (OS.keepLe (OB.fam_eq (by first | rfl | omega | assumption) (by first | rfl | omega | assumption)) (OS.keep OS.nil))) ?_
  intro i v vs ⟨hi, hvs⟩
  refine CW.seq ?_
  refine CW.region ?_
  refine WP.s .n (O.lt rfl rfl) ?_
  refine WP.nil ?_
  refine QE.next ?_
  refine CW.seq ?_
  refine CW.condD rfl (fun h_t14 => ?_) (fun h_t14 => ?_)
  · refine CW.skip ?_
    refine QE.next ?_
    refine CW.seq ?_
    refine CW.block ?_
    refine CW.seq ?_
    refine CW.region ?_
    refine WP.s .n (O.ix i rfl rfl Try.underlying67 ty27 rfl (v := (l.getD i [])) (gd [] (by omega))) ?_
    refine WP.s .n (O.ldP rfl ty27) ?_
    refine WP.s .n (O.asg rfl) ?_
    refine WP.nil ?_
    refine QE.next ?_
    refine CW.region ?_
    refine WP.s .n (O.mv rfl) ?_
    refine WP.s .n (O.mv rfl) ?_
    refine WP.s .n (O.mv rfl) ?_
    refine WP.callc (Li := []) (L := [OB.fam vs 31 kC ((l.take i).map F), OB.row v 27 kVal vs]) .n rfl hok (evs.c rfl evs.nil) (hF _ (getD_mem [] (by omega))) fun p_ Lo_ hp_ => ?_
    obtain ⟨v2, rfl, rfl, _⟩ := hp_
    refine ST.rowcell 0 rfl fun hcell_ => ?_
    refine WP.s .n (O.bs Try.underlying67 el27_val (evl.l rfl (ex_val (by first | rfl | assumption)) evl.n) rfl (by decide)) ?_
    refine WP.ap 2 .n rfl rfl rfl (VP.le_refl _) Try.underlying67 el27_val (by simp; omega) fun v3 => ?_
    refine WP.s .n (O.asg rfl) ?_
    refine WP.nil ?_
    refine QE.blkN ?_
    refine QE.next ?_
    refine CW.region ?_
    refine WP.s .n (O.add rfl rfl (c := ((i : Int) + 1)) (w64 (by omega))) ?_
    refine WP.s .n (O.mv rfl) ?_
    refine WP.nil ?_
    refine ST.oimp (fam_push 0 rfl) ?_
    refine ST.obtold 0 rfl (OB.fam_eq rfl (yss := ((l.take (i + 1)).map F)) (map_take_app (by omega))) ?_
    exact QE.round3 (i + 1) v3 (vs ++ [v2]) (by omega) ⟨by omega, by simp [hvs]⟩ (Imp.cons rfl (Imp.cons rfl (Imp.cons rfl (Imp.cons rfl (Imp.cons rfl (Imp.consLe rfl (is_eq (y := (((i + 1) : Nat) : Int)) (by first | rfl | omega | assumption)) Imp.nil)))))) (OImp.refl _)
  · refine CW.exit ?_
    refine QE.thenE ?_
    refine QE.thenE ?_
    refine QE.blkH ?_
    refine QE.next ?_
    refine CW.seq ?_
    refine CW.region ?_
    refine WP.s .n (O.mv rfl) ?_
    refine WP.s .n (O.asg rfl) ?_
    refine WP.nil ?_
    refine QE.next ?_
    refine CW.ret ?_
    have hvl : vs.length = l.length := by omega
    refine ST.obtold 0 rfl (OB.fam_eq rfl (yss := (l.map F)) (by rw [List.take_of_length_le (by omega)])) ?_
    refine ST.oimp (OImp.ix [1, 0] (by decide) rfl) ?_
    exact QE.done (.inl rfl) rfl (ResOk.t rfl ResOk.nil) (OImp.refl _) ⟨v, vs, rfl, rfl, hvl⟩

set_option maxRecDepth 20000 in
set_option maxHeartbeats 1000000 in
theorem c_mat_Form (l : List (List Int)) (hl : ∀ r, r ∈ l → ∀ x, x ∈ r → Sm x) : Fn Try.prog 259 [(kSl (kSl kZ)).is l] ((kSl (kSl kC)).is l) := by
  refine Con.enter Try.func259 rfl rfl fun m w => ?_
  refine CW.seq ?_
  refine CW.region ?_
  refine WP.s .n (O.asg rfl) ?_
  refine WP.nil ?_
  refine QE.next ?_
  refine CW.seq ?_
  refine CW.region ?_
  refine WP.s .n (O.mv rfl) ?_
  refine WP.s .n (O.fn fn136 (evs.c rfl (evs.l rfl clo_fv evs.nil)) (c_mat_eachRR 266 [] (fun x => x) l fn266 (fun r hr => c_mat_Form1 r (hl r hr)))) ?_
  refine WP.s .n (O.asg rfl) ?_
  refine WP.nil ?_
  refine QE.next ?_
  refine CW.ret ?_
  refine ST.told 2 rfl (is_eq (y := l) (by simp)) ?_
  exact QE.done (.inl rfl) rfl (ResOk.t rfl ResOk.nil) (OImp.sub (List.nil_sublist _)) ⟨rfl, rfl⟩

set_option maxRecDepth 20000 in
set_option maxHeartbeats 1000000 in
theorem c_mat_Formo (l : List (List Int)) : Con Try.prog 259 [(kSl (kSl kZ)).is l] [] (fun p Lo => ∃ (v : Value) (vs : List Value), p = VP.ex v ∧ Lo = [OB.row v 27 kVal vs, OB.fam vs 31 kC l] ∧ vs.length = l.length) := by
  refine Con.enter Try.func259 rfl rfl fun m w => ?_
  refine CW.seq ?_
  refine CW.region ?_
  refine WP.s .n (O.asg rfl) ?_
  refine WP.nil ?_
  refine QE.next ?_
  refine CW.seq ?_
  refine CW.region ?_
  refine WP.s .n (O.mv rfl) ?_
  refine WP.call (Li := []) (L := []) .n fn136 (evs.c rfl (evs.l rfl clo_fv evs.nil)) (c_mat_eachRRo 266 [] (fun x => x) l fn266 (fun r _ => c_mat_Form1o r)) fun p_ Lo_ hp_ => ?_
  obtain ⟨v1, vs_t4, rfl, rfl, hx_t4⟩ := hp_
  refine WP.s .n (O.asg rfl) ?_
  refine WP.nil ?_
  refine QE.next ?_
  refine CW.ret ?_
  refine ST.obtold 1 rfl (OB.fam_eq rfl (yss := l) (by simp)) ?_
  exact QE.done (.inl rfl) rfl (ResOk.t rfl ResOk.nil) (OImp.refl _) ⟨v1, vs_t4, rfl, rfl, hx_t4⟩

end Fw


/- AddRow and Swap. -/
set_option linter.unusedVariables false
set_option linter.unusedSimpArgs false
set_option exponentiation.threshold 400
namespace Fw
open Go Go.Proofs

set_option maxRecDepth 20000 in
set_option maxHeartbeats 1000000 in
theorem c_gso_fresh (D : List Int) (Ls : List (List Int)) (hD : ∀ x, x ∈ D → Sm x) (hL : ∀ r, r ∈ Ls → ∀ x, x ∈ r → Sm x) (hDl : D.length ≤ 100) (hLl : Ls.length ≤ 100) : Con Try.prog 233 [(kPair (kSl kC) (kSl (kSl kC))).is (D, Ls)] [] (fun p Lo => ∃ (vD : Value) (vL : Value) (vs : List Value), p = (kPair kVal kVal).is (vD, vL) ∧ Lo = [OB.row vD 31 kC D, OB.row vL 27 kVal vs, OB.fam vs 31 kC Ls] ∧ vs.length = Ls.length) := by
  refine Con.enter Try.func233 rfl rfl fun m w => ?_
  refine CW.seq ?_
  refine CW.region ?_
  refine WP.bx .n rfl fun b1 => ?_
  refine WP.al .n z93_pr_val_val_ fun b2 => ?_
  refine WP.nil ?_
  refine QE.next ?_
  refine CW.cut3 (fun (pb : Nat) (vD : Value) (vL : Value) => True) (fun (pb : Nat) (vD : Value) (vL : Value) => [(1, VP.ex (.pointer (some ⟨b1, 0, none⟩))), (2, VP.ex (.pointer (some ⟨b2, 0, none⟩))), (3, VP.ex (.pointer (some ⟨pb, 0, none⟩)))]) (fun (pb : Nat) (vD : Value) (vL : Value) => [OB.row vL 27 kVal (List.replicate Ls.length nilV), OB.row vD 31 kC (List.replicate D.length 0), OB.box pb 93 (kPair kVal kVal) (vD, vL), OB.box b2 93 (kPair kVal kVal) (nilV, nilV), OB.box b1 93 (kPair (kSl kC) (kSl (kSl kC))) (D, Ls)]) ?_ ?_
  · refine CW.any (by kernel_rfl) ?_
    refine DA.first 0 rfl (by kernel_rfl) (by kernel_rfl) (by kernel_rfl) (fun _ _ _ _ _ h => h) .n (OV.fa rfl fld93_0 rfl) ?_
    refine DA.first 4 rfl (by kernel_rfl) (by kernel_rfl) (by kernel_rfl) (fun _ _ _ _ _ h => h) .n (OV.fa rfl fld93_1 rfl) ?_
    refine DA.go 1 [5, 9] (by kernel_rfl) ⟨?_, ⟨?_, ⟨?_, trivial⟩⟩⟩
    · refine DO.w rfl ?_
      refine WP.s .n (O.ld (p := (kSl kC).is D) rfl (mem_at 1 rfl) (Lens.fst (Lens.id _)) ty27 rfl) ?_
      refine WP.nil ?_
      refine DO.nx ?_
      refine DA.first 2 rfl (by kernel_rfl) (by kernel_rfl) (by kernel_rfl) (fun _ _ _ _ _ h => h) .n (OV.lenS rfl Try.underlying27) ?_
      refine DA.go 3 [5, 9] (by kernel_rfl) ⟨?_, ⟨?_, ⟨?_, trivial⟩⟩⟩
      · refine DO.w rfl ?_
        refine WP.mk D.length .n rfl rfl rfl (by first | omega | simp) Try.underlying27 el31_C z31_C fun v3 => ?_
        refine WP.nil ?_
        refine DO.nx ?_
        refine DA.go 5 [9] (by kernel_rfl) ⟨?_, ⟨?_, trivial⟩⟩
        · refine DO.w rfl ?_
          refine WP.s .n (O.ld (p := (kSl (kSl kC)).is Ls) rfl (mem_at 2 rfl) (Lens.snd (Lens.id _)) ty67 rfl) ?_
          refine WP.nil ?_
          refine DO.nx ?_
          refine DA.first 6 rfl (by kernel_rfl) (by kernel_rfl) (by kernel_rfl) (fun _ _ _ _ _ h => h) .n (OV.lenS rfl Try.underlying67) ?_
          refine DA.go 7 [9] (by kernel_rfl) ⟨?_, ⟨?_, trivial⟩⟩
          · refine DO.w rfl ?_
            refine WP.mk Ls.length .n rfl rfl rfl (by first | omega | simp) Try.underlying67 el27_val z27_val fun v4 => ?_
            refine WP.nil ?_
            refine DO.nx ?_
            refine ST.rowcell 1 rfl fun hcell_ => ?_
            refine ST.rowcell 0 rfl fun hcell_ => ?_
            refine DA.first 8 rfl (by kernel_rfl) (by kernel_rfl) (by kernel_rfl) (fun _ _ _ _ _ h => h) .n (OV.bld lit93_pr_val_val_ rfl (evp.l rfl (ex_val (by first | rfl | assumption)) (evp.l rfl (ex_val (by first | rfl | assumption)) evp.n)) (.cons rfl (Lens.fst (Lens.id _)) (.cons rfl (Lens.snd (Lens.id _)) (.nil _)))) ?_
            refine DA.go 9 [] (by kernel_rfl) ⟨?_, trivial⟩
            refine DO.w rfl ?_
            refine WP.al .n z93_pr_val_val_ fun b5 => ?_
            refine WP.nil ?_
            refine DO.nx ?_
            refine DA.go 10 [] (by kernel_rfl) ⟨?_, trivial⟩
            refine DO.w rfl ?_
            refine WP.t .n (O.stW (l := (kPair kVal kVal)) (u := (v3, v4)) 0 rfl rfl rfl ty93 rfl (VP.le_refl _)) ?_
            refine WP.nil ?_
            refine DO.nx ?_
            refine DA.nil (by kernel_rfl) ?_
            refine ST.oimp (OImp.ix [1, 2, 0, 3, 4] (by decide) rfl) ?_
            exact QE.mid3 b5 v3 v4 trivial (Imp.cons rfl (Imp.cons rfl (Imp.cons rfl Imp.nil))) (OImp.os (OS.keepLe (OB.row_eq (by first | rfl | omega | assumption)) (OS.keep (OS.keep (OS.keepLe (OB.box_eq (by first | rfl | omega | assumption)) (OS.keep OS.nil))))))
          · refine DO.w rfl ?_
            refine WP.al .n z93_pr_val_val_ fun b6 => ?_
            refine WP.nil ?_
            refine DO.nx ?_
            refine DA.go 7 [] (by kernel_rfl) ⟨?_, trivial⟩
            refine DO.w rfl ?_
            refine WP.mk Ls.length .n rfl rfl rfl (by first | omega | simp) Try.underlying67 el27_val z27_val fun v7 => ?_
            refine WP.nil ?_
            refine DO.nx ?_
            refine ST.rowcell 2 rfl fun hcell_ => ?_
            refine ST.rowcell 0 rfl fun hcell_ => ?_
            refine DA.first 8 rfl (by kernel_rfl) (by kernel_rfl) (by kernel_rfl) (fun _ _ _ _ _ h => h) .n (OV.bld lit93_pr_val_val_ rfl (evp.l rfl (ex_val (by first | rfl | assumption)) (evp.l rfl (ex_val (by first | rfl | assumption)) evp.n)) (.cons rfl (Lens.fst (Lens.id _)) (.cons rfl (Lens.snd (Lens.id _)) (.nil _)))) ?_
            refine DA.go 10 [] (by kernel_rfl) ⟨?_, trivial⟩
            refine DO.w rfl ?_
            refine WP.t .n (O.stW (l := (kPair kVal kVal)) (u := (v3, v7)) 1 rfl rfl rfl ty93 rfl (VP.le_refl _)) ?_
            refine WP.nil ?_
            refine DO.nx ?_
            refine DA.nil (by kernel_rfl) ?_
            refine ST.oimp (OImp.ix [0, 2, 1, 3, 4] (by decide) rfl) ?_
            exact QE.mid3 b6 v3 v7 trivial (Imp.cons rfl (Imp.cons rfl (Imp.cons rfl Imp.nil))) (OImp.os (OS.keepLe (OB.row_eq (by first | rfl | omega | assumption)) (OS.keep (OS.keep (OS.keepLe (OB.box_eq (by first | rfl | omega | assumption)) (OS.keep OS.nil))))))
        · refine DO.w rfl ?_
          refine WP.al .n z93_pr_val_val_ fun b8 => ?_
          refine WP.nil ?_
          refine DO.nx ?_
          refine DA.go 5 [] (by kernel_rfl) ⟨?_, trivial⟩
          refine DO.w rfl ?_
          refine WP.s .n (O.ld (p := (kSl (kSl kC)).is Ls) rfl (mem_at 3 rfl) (Lens.snd (Lens.id _)) ty67 rfl) ?_
          refine WP.nil ?_
          refine DO.nx ?_
          refine DA.first 6 rfl (by kernel_rfl) (by kernel_rfl) (by kernel_rfl) (fun _ _ _ _ _ h => h) .n (OV.lenS rfl Try.underlying67) ?_
          refine DA.go 7 [] (by kernel_rfl) ⟨?_, trivial⟩
          refine DO.w rfl ?_
          refine WP.mk Ls.length .n rfl rfl rfl (by first | omega | simp) Try.underlying67 el27_val z27_val fun v9 => ?_
          refine WP.nil ?_
          refine DO.nx ?_
          refine ST.rowcell 2 rfl fun hcell_ => ?_
          refine ST.rowcell 0 rfl fun hcell_ => ?_
          refine DA.first 8 rfl (by kernel_rfl) (by kernel_rfl) (by kernel_rfl) (fun _ _ _ _ _ h => h) .n (OV.bld lit93_pr_val_val_ rfl (evp.l rfl (ex_val (by first | rfl | assumption)) (evp.l rfl (ex_val (by first | rfl | assumption)) evp.n)) (.cons rfl (Lens.fst (Lens.id _)) (.cons rfl (Lens.snd (Lens.id _)) (.nil _)))) ?_
          refine DA.go 10 [] (by kernel_rfl) ⟨?_, trivial⟩
          refine DO.w rfl ?_
          refine WP.t .n (O.stW (l := (kPair kVal kVal)) (u := (v3, v9)) 1 rfl rfl rfl ty93 rfl (VP.le_refl _)) ?_
          refine WP.nil ?_
          refine DO.nx ?_
          refine DA.nil (by kernel_rfl) ?_
          refine ST.oimp (OImp.ix [0, 2, 1, 3, 4] (by decide) rfl) ?_
          exact QE.mid3 b8 v3 v9 trivial (Imp.cons rfl (Imp.cons rfl (Imp.cons rfl Imp.nil))) (OImp.os (OS.keepLe (OB.row_eq (by first | rfl | omega | assumption)) (OS.keep (OS.keep (OS.keepLe (OB.box_eq (by first | rfl | omega | assumption)) (OS.keep OS.nil))))))
      · refine DO.w rfl ?_
        refine WP.s .n (O.ld (p := (kSl (kSl kC)).is Ls) rfl (mem_at 1 rfl) (Lens.snd (Lens.id _)) ty67 rfl) ?_
        refine WP.nil ?_
        refine DO.nx ?_
        refine DA.first 6 rfl (by kernel_rfl) (by kernel_rfl) (by kernel_rfl) (fun _ _ _ _ _ h => h) .n (OV.lenS rfl Try.underlying67) ?_
        refine DA.go 3 [7, 9] (by kernel_rfl) ⟨?_, ⟨?_, ⟨?_, trivial⟩⟩⟩
        · refine DO.w rfl ?_
          refine WP.mk D.length .n rfl rfl rfl (by first | omega | simp) Try.underlying27 el31_C z31_C fun v10 => ?_
          refine WP.nil ?_
          refine DO.nx ?_
          refine DA.go 7 [9] (by kernel_rfl) ⟨?_, ⟨?_, trivial⟩⟩
          · refine DO.w rfl ?_
            refine WP.mk Ls.length .n rfl rfl rfl (by first | omega | simp) Try.underlying67 el27_val z27_val fun v11 => ?_
            refine WP.nil ?_
            refine DO.nx ?_
            refine ST.rowcell 1 rfl fun hcell_ => ?_
            refine ST.rowcell 0 rfl fun hcell_ => ?_
            refine DA.first 8 rfl (by kernel_rfl) (by kernel_rfl) (by kernel_rfl) (fun _ _ _ _ _ h => h) .n (OV.bld lit93_pr_val_val_ rfl (evp.l rfl (ex_val (by first | rfl | assumption)) (evp.l rfl (ex_val (by first | rfl | assumption)) evp.n)) (.cons rfl (Lens.fst (Lens.id _)) (.cons rfl (Lens.snd (Lens.id _)) (.nil _)))) ?_
            refine DA.go 9 [] (by kernel_rfl) ⟨?_, trivial⟩
            refine DO.w rfl ?_
            refine WP.al .n z93_pr_val_val_ fun b12 => ?_
            refine WP.nil ?_
            refine DO.nx ?_
            refine DA.go 10 [] (by kernel_rfl) ⟨?_, trivial⟩
            refine DO.w rfl ?_
            refine WP.t .n (O.stW (l := (kPair kVal kVal)) (u := (v10, v11)) 0 rfl rfl rfl ty93 rfl (VP.le_refl _)) ?_
            refine WP.nil ?_
            refine DO.nx ?_
            refine DA.nil (by kernel_rfl) ?_
            refine ST.oimp (OImp.ix [1, 2, 0, 3, 4] (by decide) rfl) ?_
            exact QE.mid3 b12 v10 v11 trivial (Imp.cons rfl (Imp.cons rfl (Imp.cons rfl Imp.nil))) (OImp.os (OS.keepLe (OB.row_eq (by first | rfl | omega | assumption)) (OS.keep (OS.keep (OS.keepLe (OB.box_eq (by first | rfl | omega | assumption)) (OS.keep OS.nil))))))
          · refine DO.w rfl ?_
            refine WP.al .n z93_pr_val_val_ fun b13 => ?_
            refine WP.nil ?_
            refine DO.nx ?_
            refine DA.go 7 [] (by kernel_rfl) ⟨?_, trivial⟩
            refine DO.w rfl ?_
            refine WP.mk Ls.length .n rfl rfl rfl (by first | omega | simp) Try.underlying67 el27_val z27_val fun v14 => ?_
            refine WP.nil ?_
            refine DO.nx ?_
            refine ST.rowcell 2 rfl fun hcell_ => ?_
            refine ST.rowcell 0 rfl fun hcell_ => ?_
            refine DA.first 8 rfl (by kernel_rfl) (by kernel_rfl) (by kernel_rfl) (fun _ _ _ _ _ h => h) .n (OV.bld lit93_pr_val_val_ rfl (evp.l rfl (ex_val (by first | rfl | assumption)) (evp.l rfl (ex_val (by first | rfl | assumption)) evp.n)) (.cons rfl (Lens.fst (Lens.id _)) (.cons rfl (Lens.snd (Lens.id _)) (.nil _)))) ?_
            refine DA.go 10 [] (by kernel_rfl) ⟨?_, trivial⟩
            refine DO.w rfl ?_
            refine WP.t .n (O.stW (l := (kPair kVal kVal)) (u := (v10, v14)) 1 rfl rfl rfl ty93 rfl (VP.le_refl _)) ?_
            refine WP.nil ?_
            refine DO.nx ?_
            refine DA.nil (by kernel_rfl) ?_
            refine ST.oimp (OImp.ix [0, 2, 1, 3, 4] (by decide) rfl) ?_
            exact QE.mid3 b13 v10 v14 trivial (Imp.cons rfl (Imp.cons rfl (Imp.cons rfl Imp.nil))) (OImp.os (OS.keepLe (OB.row_eq (by first | rfl | omega | assumption)) (OS.keep (OS.keep (OS.keepLe (OB.box_eq (by first | rfl | omega | assumption)) (OS.keep OS.nil))))))
        · refine DO.w rfl ?_
          refine WP.mk Ls.length .n rfl rfl rfl (by first | omega | simp) Try.underlying67 el27_val z27_val fun v15 => ?_
          refine WP.nil ?_
          refine DO.nx ?_
          refine DA.go 3 [9] (by kernel_rfl) ⟨?_, ⟨?_, trivial⟩⟩
          · refine DO.w rfl ?_
            refine WP.mk D.length .n rfl rfl rfl (by first | omega | simp) Try.underlying27 el31_C z31_C fun v16 => ?_
            refine WP.nil ?_
            refine DO.nx ?_
            refine ST.rowcell 0 rfl fun hcell_ => ?_
            refine ST.rowcell 1 rfl fun hcell_ => ?_
            refine DA.first 8 rfl (by kernel_rfl) (by kernel_rfl) (by kernel_rfl) (fun _ _ _ _ _ h => h) .n (OV.bld lit93_pr_val_val_ rfl (evp.l rfl (ex_val (by first | rfl | assumption)) (evp.l rfl (ex_val (by first | rfl | assumption)) evp.n)) (.cons rfl (Lens.fst (Lens.id _)) (.cons rfl (Lens.snd (Lens.id _)) (.nil _)))) ?_
            refine DA.go 9 [] (by kernel_rfl) ⟨?_, trivial⟩
            refine DO.w rfl ?_
            refine WP.al .n z93_pr_val_val_ fun b17 => ?_
            refine WP.nil ?_
            refine DO.nx ?_
            refine DA.go 10 [] (by kernel_rfl) ⟨?_, trivial⟩
            refine DO.w rfl ?_
            refine WP.t .n (O.stW (l := (kPair kVal kVal)) (u := (v16, v15)) 0 rfl rfl rfl ty93 rfl (VP.le_refl _)) ?_
            refine WP.nil ?_
            refine DO.nx ?_
            refine DA.nil (by kernel_rfl) ?_
            refine ST.oimp (OImp.ix [2, 1, 0, 3, 4] (by decide) rfl) ?_
            exact QE.mid3 b17 v16 v15 trivial (Imp.cons rfl (Imp.cons rfl (Imp.cons rfl Imp.nil))) (OImp.os (OS.keepLe (OB.row_eq (by first | rfl | omega | assumption)) (OS.keep (OS.keep (OS.keepLe (OB.box_eq (by first | rfl | omega | assumption)) (OS.keep OS.nil))))))
          · refine DO.w rfl ?_
            refine WP.al .n z93_pr_val_val_ fun b18 => ?_
            refine WP.nil ?_
            refine DO.nx ?_
            refine DA.go 3 [] (by kernel_rfl) ⟨?_, trivial⟩
            refine DO.w rfl ?_
            refine WP.mk D.length .n rfl rfl rfl (by first | omega | simp) Try.underlying27 el31_C z31_C fun v19 => ?_
            refine WP.nil ?_
            refine DO.nx ?_
            refine ST.rowcell 0 rfl fun hcell_ => ?_
            refine ST.rowcell 2 rfl fun hcell_ => ?_
            refine DA.first 8 rfl (by kernel_rfl) (by kernel_rfl) (by kernel_rfl) (fun _ _ _ _ _ h => h) .n (OV.bld lit93_pr_val_val_ rfl (evp.l rfl (ex_val (by first | rfl | assumption)) (evp.l rfl (ex_val (by first | rfl | assumption)) evp.n)) (.cons rfl (Lens.fst (Lens.id _)) (.cons rfl (Lens.snd (Lens.id _)) (.nil _)))) ?_
            refine DA.go 10 [] (by kernel_rfl) ⟨?_, trivial⟩
            refine DO.w rfl ?_
            refine WP.t .n (O.stW (l := (kPair kVal kVal)) (u := (v19, v15)) 1 rfl rfl rfl ty93 rfl (VP.le_refl _)) ?_
            refine WP.nil ?_
            refine DO.nx ?_
            refine DA.nil (by kernel_rfl) ?_
            refine ST.oimp (OImp.ix [2, 0, 1, 3, 4] (by decide) rfl) ?_
            exact QE.mid3 b18 v19 v15 trivial (Imp.cons rfl (Imp.cons rfl (Imp.cons rfl Imp.nil))) (OImp.os (OS.keepLe (OB.row_eq (by first | rfl | omega | assumption)) (OS.keep (OS.keep (OS.keepLe (OB.box_eq (by first | rfl | omega | assumption)) (OS.keep OS.nil))))))
        · refine DO.w rfl ?_
          refine WP.al .n z93_pr_val_val_ fun b20 => ?_
          refine WP.nil ?_
          refine DO.nx ?_
          refine DA.go 3 [7] (by kernel_rfl) ⟨?_, ⟨?_, trivial⟩⟩
          · refine DO.w rfl ?_
            refine WP.mk D.length .n rfl rfl rfl (by first | omega | simp) Try.underlying27 el31_C z31_C fun v21 => ?_
            refine WP.nil ?_
            refine DO.nx ?_
            refine DA.go 7 [] (by kernel_rfl) ⟨?_, trivial⟩
            refine DO.w rfl ?_
            refine WP.mk Ls.length .n rfl rfl rfl (by first | omega | simp) Try.underlying67 el27_val z27_val fun v22 => ?_
            refine WP.nil ?_
            refine DO.nx ?_
            refine ST.rowcell 1 rfl fun hcell_ => ?_
            refine ST.rowcell 0 rfl fun hcell_ => ?_
            refine DA.first 8 rfl (by kernel_rfl) (by kernel_rfl) (by kernel_rfl) (fun _ _ _ _ _ h => h) .n (OV.bld lit93_pr_val_val_ rfl (evp.l rfl (ex_val (by first | rfl | assumption)) (evp.l rfl (ex_val (by first | rfl | assumption)) evp.n)) (.cons rfl (Lens.fst (Lens.id _)) (.cons rfl (Lens.snd (Lens.id _)) (.nil _)))) ?_
            refine DA.go 10 [] (by kernel_rfl) ⟨?_, trivial⟩
            refine DO.w rfl ?_
            refine WP.t .n (O.stW (l := (kPair kVal kVal)) (u := (v21, v22)) 2 rfl rfl rfl ty93 rfl (VP.le_refl _)) ?_
            refine WP.nil ?_
            refine DO.nx ?_
            refine DA.nil (by kernel_rfl) ?_
            refine ST.oimp (OImp.ix [0, 1, 2, 3, 4] (by decide) rfl) ?_
            exact QE.mid3 b20 v21 v22 trivial (Imp.cons rfl (Imp.cons rfl (Imp.cons rfl Imp.nil))) (OImp.os (OS.keepLe (OB.row_eq (by first | rfl | omega | assumption)) (OS.keep (OS.keep (OS.keepLe (OB.box_eq (by first | rfl | omega | assumption)) (OS.keep OS.nil))))))
          · refine DO.w rfl ?_
            refine WP.mk Ls.length .n rfl rfl rfl (by first | omega | simp) Try.underlying67 el27_val z27_val fun v23 => ?_
            refine WP.nil ?_
            refine DO.nx ?_
            refine DA.go 3 [] (by kernel_rfl) ⟨?_, trivial⟩
            refine DO.w rfl ?_
            refine WP.mk D.length .n rfl rfl rfl (by first | omega | simp) Try.underlying27 el31_C z31_C fun v24 => ?_
            refine WP.nil ?_
            refine DO.nx ?_
            refine ST.rowcell 0 rfl fun hcell_ => ?_
            refine ST.rowcell 1 rfl fun hcell_ => ?_
            refine DA.first 8 rfl (by kernel_rfl) (by kernel_rfl) (by kernel_rfl) (fun _ _ _ _ _ h => h) .n (OV.bld lit93_pr_val_val_ rfl (evp.l rfl (ex_val (by first | rfl | assumption)) (evp.l rfl (ex_val (by first | rfl | assumption)) evp.n)) (.cons rfl (Lens.fst (Lens.id _)) (.cons rfl (Lens.snd (Lens.id _)) (.nil _)))) ?_
            refine DA.go 10 [] (by kernel_rfl) ⟨?_, trivial⟩
            refine DO.w rfl ?_
            refine WP.t .n (O.stW (l := (kPair kVal kVal)) (u := (v24, v23)) 2 rfl rfl rfl ty93 rfl (VP.le_refl _)) ?_
            refine WP.nil ?_
            refine DO.nx ?_
            refine DA.nil (by kernel_rfl) ?_
            refine ST.oimp (OImp.ix [1, 0, 2, 3, 4] (by decide) rfl) ?_
            exact QE.mid3 b20 v24 v23 trivial (Imp.cons rfl (Imp.cons rfl (Imp.cons rfl Imp.nil))) (OImp.os (OS.keepLe (OB.row_eq (by first | rfl | omega | assumption)) (OS.keep (OS.keep (OS.keepLe (OB.box_eq (by first | rfl | omega | assumption)) (OS.keep OS.nil))))))
      · refine DO.w rfl ?_
        refine WP.al .n z93_pr_val_val_ fun b25 => ?_
        refine WP.nil ?_
        refine DO.nx ?_
        refine DA.go 3 [5] (by kernel_rfl) ⟨?_, ⟨?_, trivial⟩⟩
        · refine DO.w rfl ?_
          refine WP.mk D.length .n rfl rfl rfl (by first | omega | simp) Try.underlying27 el31_C z31_C fun v26 => ?_
          refine WP.nil ?_
          refine DO.nx ?_
          refine DA.go 5 [] (by kernel_rfl) ⟨?_, trivial⟩
          refine DO.w rfl ?_
          refine WP.s .n (O.ld (p := (kSl (kSl kC)).is Ls) rfl (mem_at 3 rfl) (Lens.snd (Lens.id _)) ty67 rfl) ?_
          refine WP.nil ?_
          refine DO.nx ?_
          refine DA.first 6 rfl (by kernel_rfl) (by kernel_rfl) (by kernel_rfl) (fun _ _ _ _ _ h => h) .n (OV.lenS rfl Try.underlying67) ?_
          refine DA.go 7 [] (by kernel_rfl) ⟨?_, trivial⟩
          refine DO.w rfl ?_
          refine WP.mk Ls.length .n rfl rfl rfl (by first | omega | simp) Try.underlying67 el27_val z27_val fun v27 => ?_
          refine WP.nil ?_
          refine DO.nx ?_
          refine ST.rowcell 1 rfl fun hcell_ => ?_
          refine ST.rowcell 0 rfl fun hcell_ => ?_
          refine DA.first 8 rfl (by kernel_rfl) (by kernel_rfl) (by kernel_rfl) (fun _ _ _ _ _ h => h) .n (OV.bld lit93_pr_val_val_ rfl (evp.l rfl (ex_val (by first | rfl | assumption)) (evp.l rfl (ex_val (by first | rfl | assumption)) evp.n)) (.cons rfl (Lens.fst (Lens.id _)) (.cons rfl (Lens.snd (Lens.id _)) (.nil _)))) ?_
          refine DA.go 10 [] (by kernel_rfl) ⟨?_, trivial⟩
          refine DO.w rfl ?_
          refine WP.t .n (O.stW (l := (kPair kVal kVal)) (u := (v26, v27)) 2 rfl rfl rfl ty93 rfl (VP.le_refl _)) ?_
          refine WP.nil ?_
          refine DO.nx ?_
          refine DA.nil (by kernel_rfl) ?_
          refine ST.oimp (OImp.ix [0, 1, 2, 3, 4] (by decide) rfl) ?_
          exact QE.mid3 b25 v26 v27 trivial (Imp.cons rfl (Imp.cons rfl (Imp.cons rfl Imp.nil))) (OImp.os (OS.keepLe (OB.row_eq (by first | rfl | omega | assumption)) (OS.keep (OS.keep (OS.keepLe (OB.box_eq (by first | rfl | omega | assumption)) (OS.keep OS.nil))))))
        · refine DO.w rfl ?_
          refine WP.s .n (O.ld (p := (kSl (kSl kC)).is Ls) rfl (mem_at 2 rfl) (Lens.snd (Lens.id _)) ty67 rfl) ?_
          refine WP.nil ?_
          refine DO.nx ?_
          refine DA.first 6 rfl (by kernel_rfl) (by kernel_rfl) (by kernel_rfl) (fun _ _ _ _ _ h => h) .n (OV.lenS rfl Try.underlying67) ?_
          refine DA.go 3 [7] (by kernel_rfl) ⟨?_, ⟨?_, trivial⟩⟩
          · refine DO.w rfl ?_
            refine WP.mk D.length .n rfl rfl rfl (by first | omega | simp) Try.underlying27 el31_C z31_C fun v28 => ?_
            refine WP.nil ?_
            refine DO.nx ?_
            refine DA.go 7 [] (by kernel_rfl) ⟨?_, trivial⟩
            refine DO.w rfl ?_
            refine WP.mk Ls.length .n rfl rfl rfl (by first | omega | simp) Try.underlying67 el27_val z27_val fun v29 => ?_
            refine WP.nil ?_
            refine DO.nx ?_
            refine ST.rowcell 1 rfl fun hcell_ => ?_
            refine ST.rowcell 0 rfl fun hcell_ => ?_
            refine DA.first 8 rfl (by kernel_rfl) (by kernel_rfl) (by kernel_rfl) (fun _ _ _ _ _ h => h) .n (OV.bld lit93_pr_val_val_ rfl (evp.l rfl (ex_val (by first | rfl | assumption)) (evp.l rfl (ex_val (by first | rfl | assumption)) evp.n)) (.cons rfl (Lens.fst (Lens.id _)) (.cons rfl (Lens.snd (Lens.id _)) (.nil _)))) ?_
            refine DA.go 10 [] (by kernel_rfl) ⟨?_, trivial⟩
            refine DO.w rfl ?_
            refine WP.t .n (O.stW (l := (kPair kVal kVal)) (u := (v28, v29)) 2 rfl rfl rfl ty93 rfl (VP.le_refl _)) ?_
            refine WP.nil ?_
            refine DO.nx ?_
            refine DA.nil (by kernel_rfl) ?_
            refine ST.oimp (OImp.ix [0, 1, 2, 3, 4] (by decide) rfl) ?_
            exact QE.mid3 b25 v28 v29 trivial (Imp.cons rfl (Imp.cons rfl (Imp.cons rfl Imp.nil))) (OImp.os (OS.keepLe (OB.row_eq (by first | rfl | omega | assumption)) (OS.keep (OS.keep (OS.keepLe (OB.box_eq (by first | rfl | omega | assumption)) (OS.keep OS.nil))))))
          · refine DO.w rfl ?_
            refine WP.mk Ls.length .n rfl rfl rfl (by first | omega | simp) Try.underlying67 el27_val z27_val fun v30 => ?_
            refine WP.nil ?_
            refine DO.nx ?_
            refine DA.go 3 [] (by kernel_rfl) ⟨?_, trivial⟩
            refine DO.w rfl ?_
            refine WP.mk D.length .n rfl rfl rfl (by first | omega | simp) Try.underlying27 el31_C z31_C fun v31 => ?_
            refine WP.nil ?_
            refine DO.nx ?_
            refine ST.rowcell 0 rfl fun hcell_ => ?_
            refine ST.rowcell 1 rfl fun hcell_ => ?_
            refine DA.first 8 rfl (by kernel_rfl) (by kernel_rfl) (by kernel_rfl) (fun _ _ _ _ _ h => h) .n (OV.bld lit93_pr_val_val_ rfl (evp.l rfl (ex_val (by first | rfl | assumption)) (evp.l rfl (ex_val (by first | rfl | assumption)) evp.n)) (.cons rfl (Lens.fst (Lens.id _)) (.cons rfl (Lens.snd (Lens.id _)) (.nil _)))) ?_
            refine DA.go 10 [] (by kernel_rfl) ⟨?_, trivial⟩
            refine DO.w rfl ?_
            refine WP.t .n (O.stW (l := (kPair kVal kVal)) (u := (v31, v30)) 2 rfl rfl rfl ty93 rfl (VP.le_refl _)) ?_
            refine WP.nil ?_
            refine DO.nx ?_
            refine DA.nil (by kernel_rfl) ?_
            refine ST.oimp (OImp.ix [1, 0, 2, 3, 4] (by decide) rfl) ?_
            exact QE.mid3 b25 v31 v30 trivial (Imp.cons rfl (Imp.cons rfl (Imp.cons rfl Imp.nil))) (OImp.os (OS.keepLe (OB.row_eq (by first | rfl | omega | assumption)) (OS.keep (OS.keep (OS.keepLe (OB.box_eq (by first | rfl | omega | assumption)) (OS.keep OS.nil))))))
    · refine DO.w rfl ?_
      refine WP.s .n (O.ld (p := (kSl (kSl kC)).is Ls) rfl (mem_at 1 rfl) (Lens.snd (Lens.id _)) ty67 rfl) ?_
      refine WP.nil ?_
      refine DO.nx ?_
      refine DA.first 6 rfl (by kernel_rfl) (by kernel_rfl) (by kernel_rfl) (fun _ _ _ _ _ h => h) .n (OV.lenS rfl Try.underlying67) ?_
      refine DA.go 1 [7, 9] (by kernel_rfl) ⟨?_, ⟨?_, ⟨?_, trivial⟩⟩⟩
      · refine DO.w rfl ?_
        refine WP.s .n (O.ld (p := (kSl kC).is D) rfl (mem_at 1 rfl) (Lens.fst (Lens.id _)) ty27 rfl) ?_
        refine WP.nil ?_
        refine DO.nx ?_
        refine DA.first 2 rfl (by kernel_rfl) (by kernel_rfl) (by kernel_rfl) (fun _ _ _ _ _ h => h) .n (OV.lenS rfl Try.underlying27) ?_
        refine DA.go 3 [7, 9] (by kernel_rfl) ⟨?_, ⟨?_, ⟨?_, trivial⟩⟩⟩
        · refine DO.w rfl ?_
          refine WP.mk D.length .n rfl rfl rfl (by first | omega | simp) Try.underlying27 el31_C z31_C fun v32 => ?_
          refine WP.nil ?_
          refine DO.nx ?_
          refine DA.go 7 [9] (by kernel_rfl) ⟨?_, ⟨?_, trivial⟩⟩
          · refine DO.w rfl ?_
            refine WP.mk Ls.length .n rfl rfl rfl (by first | omega | simp) Try.underlying67 el27_val z27_val fun v33 => ?_
            refine WP.nil ?_
            refine DO.nx ?_
            refine ST.rowcell 1 rfl fun hcell_ => ?_
            refine ST.rowcell 0 rfl fun hcell_ => ?_
            refine DA.first 8 rfl (by kernel_rfl) (by kernel_rfl) (by kernel_rfl) (fun _ _ _ _ _ h => h) .n (OV.bld lit93_pr_val_val_ rfl (evp.l rfl (ex_val (by first | rfl | assumption)) (evp.l rfl (ex_val (by first | rfl | assumption)) evp.n)) (.cons rfl (Lens.fst (Lens.id _)) (.cons rfl (Lens.snd (Lens.id _)) (.nil _)))) ?_
            refine DA.go 9 [] (by kernel_rfl) ⟨?_, trivial⟩
            refine DO.w rfl ?_
            refine WP.al .n z93_pr_val_val_ fun b34 => ?_
            refine WP.nil ?_
            refine DO.nx ?_
            refine DA.go 10 [] (by kernel_rfl) ⟨?_, trivial⟩
            refine DO.w rfl ?_
            refine WP.t .n (O.stW (l := (kPair kVal kVal)) (u := (v32, v33)) 0 rfl rfl rfl ty93 rfl (VP.le_refl _)) ?_
            refine WP.nil ?_
            refine DO.nx ?_
            refine DA.nil (by kernel_rfl) ?_
            refine ST.oimp (OImp.ix [1, 2, 0, 3, 4] (by decide) rfl) ?_
            exact QE.mid3 b34 v32 v33 trivial (Imp.cons rfl (Imp.cons rfl (Imp.cons rfl Imp.nil))) (OImp.os (OS.keepLe (OB.row_eq (by first | rfl | omega | assumption)) (OS.keep (OS.keep (OS.keepLe (OB.box_eq (by first | rfl | omega | assumption)) (OS.keep OS.nil))))))
          · refine DO.w rfl ?_
            refine WP.al .n z93_pr_val_val_ fun b35 => ?_
            refine WP.nil ?_
            refine DO.nx ?_
            refine DA.go 7 [] (by kernel_rfl) ⟨?_, trivial⟩
            refine DO.w rfl ?_
            refine WP.mk Ls.length .n rfl rfl rfl (by first | omega | simp) Try.underlying67 el27_val z27_val fun v36 => ?_
            refine WP.nil ?_
            refine DO.nx ?_
            refine ST.rowcell 2 rfl fun hcell_ => ?_
            refine ST.rowcell 0 rfl fun hcell_ => ?_
            refine DA.first 8 rfl (by kernel_rfl) (by kernel_rfl) (by kernel_rfl) (fun _ _ _ _ _ h => h) .n (OV.bld lit93_pr_val_val_ rfl (evp.l rfl (ex_val (by first | rfl | assumption)) (evp.l rfl (ex_val (by first | rfl | assumption)) evp.n)) (.cons rfl (Lens.fst (Lens.id _)) (.cons rfl (Lens.snd (Lens.id _)) (.nil _)))) ?_
            refine DA.go 10 [] (by kernel_rfl) ⟨?_, trivial⟩
            refine DO.w rfl ?_
            refine WP.t .n (O.stW (l := (kPair kVal kVal)) (u := (v32, v36)) 1 rfl rfl rfl ty93 rfl (VP.le_refl _)) ?_
            refine WP.nil ?_
            refine DO.nx ?_
            refine DA.nil (by kernel_rfl) ?_
            refine ST.oimp (OImp.ix [0, 2, 1, 3, 4] (by decide) rfl) ?_
            exact QE.mid3 b35 v32 v36 trivial (Imp.cons rfl (Imp.cons rfl (Imp.cons rfl Imp.nil))) (OImp.os (OS.keepLe (OB.row_eq (by first | rfl | omega | assumption)) (OS.keep (OS.keep (OS.keepLe (OB.box_eq (by first | rfl | omega | assumption)) (OS.keep OS.nil))))))
        · refine DO.w rfl ?_
          refine WP.mk Ls.length .n rfl rfl rfl (by first | omega | simp) Try.underlying67 el27_val z27_val fun v37 => ?_
          refine WP.nil ?_
          refine DO.nx ?_
          refine DA.go 3 [9] (by kernel_rfl) ⟨?_, ⟨?_, trivial⟩⟩
          · refine DO.w rfl ?_
            refine WP.mk D.length .n rfl rfl rfl (by first | omega | simp) Try.underlying27 el31_C z31_C fun v38 => ?_
            refine WP.nil ?_
            refine DO.nx ?_
            refine ST.rowcell 0 rfl fun hcell_ => ?_
            refine ST.rowcell 1 rfl fun hcell_ => ?_
            refine DA.first 8 rfl (by kernel_rfl) (by kernel_rfl) (by kernel_rfl) (fun _ _ _ _ _ h => h) .n (OV.bld lit93_pr_val_val_ rfl (evp.l rfl (ex_val (by first | rfl | assumption)) (evp.l rfl (ex_val (by first | rfl | assumption)) evp.n)) (.cons rfl (Lens.fst (Lens.id _)) (.cons rfl (Lens.snd (Lens.id _)) (.nil _)))) ?_
            refine DA.go 9 [] (by kernel_rfl) ⟨?_, trivial⟩
            refine DO.w rfl ?_
            refine WP.al .n z93_pr_val_val_ fun b39 => ?_
            refine WP.nil ?_
            refine DO.nx ?_
            refine DA.go 10 [] (by kernel_rfl) ⟨?_, trivial⟩
            refine DO.w rfl ?_
            refine WP.t .n (O.stW (l := (kPair kVal kVal)) (u := (v38, v37)) 0 rfl rfl rfl ty93 rfl (VP.le_refl _)) ?_
            refine WP.nil ?_
            refine DO.nx ?_
            refine DA.nil (by kernel_rfl) ?_
            refine ST.oimp (OImp.ix [2, 1, 0, 3, 4] (by decide) rfl) ?_
            exact QE.mid3 b39 v38 v37 trivial (Imp.cons rfl (Imp.cons rfl (Imp.cons rfl Imp.nil))) (OImp.os (OS.keepLe (OB.row_eq (by first | rfl | omega | assumption)) (OS.keep (OS.keep (OS.keepLe (OB.box_eq (by first | rfl | omega | assumption)) (OS.keep OS.nil))))))
          · refine DO.w rfl ?_
            refine WP.al .n z93_pr_val_val_ fun b40 => ?_
            refine WP.nil ?_
            refine DO.nx ?_
            refine DA.go 3 [] (by kernel_rfl) ⟨?_, trivial⟩
            refine DO.w rfl ?_
            refine WP.mk D.length .n rfl rfl rfl (by first | omega | simp) Try.underlying27 el31_C z31_C fun v41 => ?_
            refine WP.nil ?_
            refine DO.nx ?_
            refine ST.rowcell 0 rfl fun hcell_ => ?_
            refine ST.rowcell 2 rfl fun hcell_ => ?_
            refine DA.first 8 rfl (by kernel_rfl) (by kernel_rfl) (by kernel_rfl) (fun _ _ _ _ _ h => h) .n (OV.bld lit93_pr_val_val_ rfl (evp.l rfl (ex_val (by first | rfl | assumption)) (evp.l rfl (ex_val (by first | rfl | assumption)) evp.n)) (.cons rfl (Lens.fst (Lens.id _)) (.cons rfl (Lens.snd (Lens.id _)) (.nil _)))) ?_
            refine DA.go 10 [] (by kernel_rfl) ⟨?_, trivial⟩
            refine DO.w rfl ?_
            refine WP.t .n (O.stW (l := (kPair kVal kVal)) (u := (v41, v37)) 1 rfl rfl rfl ty93 rfl (VP.le_refl _)) ?_
            refine WP.nil ?_
            refine DO.nx ?_
            refine DA.nil (by kernel_rfl) ?_
            refine ST.oimp (OImp.ix [2, 0, 1, 3, 4] (by decide) rfl) ?_
            exact QE.mid3 b40 v41 v37 trivial (Imp.cons rfl (Imp.cons rfl (Imp.cons rfl Imp.nil))) (OImp.os (OS.keepLe (OB.row_eq (by first | rfl | omega | assumption)) (OS.keep (OS.keep (OS.keepLe (OB.box_eq (by first | rfl | omega | assumption)) (OS.keep OS.nil))))))
        · refine DO.w rfl ?_
          refine WP.al .n z93_pr_val_val_ fun b42 => ?_
          refine WP.nil ?_
          refine DO.nx ?_
          refine DA.go 3 [7] (by kernel_rfl) ⟨?_, ⟨?_, trivial⟩⟩
          · refine DO.w rfl ?_
            refine WP.mk D.length .n rfl rfl rfl (by first | omega | simp) Try.underlying27 el31_C z31_C fun v43 => ?_
            refine WP.nil ?_
            refine DO.nx ?_
            refine DA.go 7 [] (by kernel_rfl) ⟨?_, trivial⟩
            refine DO.w rfl ?_
            refine WP.mk Ls.length .n rfl rfl rfl (by first | omega | simp) Try.underlying67 el27_val z27_val fun v44 => ?_
            refine WP.nil ?_
            refine DO.nx ?_
            refine ST.rowcell 1 rfl fun hcell_ => ?_
            refine ST.rowcell 0 rfl fun hcell_ => ?_
            refine DA.first 8 rfl (by kernel_rfl) (by kernel_rfl) (by kernel_rfl) (fun _ _ _ _ _ h => h) .n (OV.bld lit93_pr_val_val_ rfl (evp.l rfl (ex_val (by first | rfl | assumption)) (evp.l rfl (ex_val (by first | rfl | assumption)) evp.n)) (.cons rfl (Lens.fst (Lens.id _)) (.cons rfl (Lens.snd (Lens.id _)) (.nil _)))) ?_
            refine DA.go 10 [] (by kernel_rfl) ⟨?_, trivial⟩
            refine DO.w rfl ?_
            refine WP.t .n (O.stW (l := (kPair kVal kVal)) (u := (v43, v44)) 2 rfl rfl rfl ty93 rfl (VP.le_refl _)) ?_
            refine WP.nil ?_
            refine DO.nx ?_
            refine DA.nil (by kernel_rfl) ?_
            refine ST.oimp (OImp.ix [0, 1, 2, 3, 4] (by decide) rfl) ?_
            exact QE.mid3 b42 v43 v44 trivial (Imp.cons rfl (Imp.cons rfl (Imp.cons rfl Imp.nil))) (OImp.os (OS.keepLe (OB.row_eq (by first | rfl | omega | assumption)) (OS.keep (OS.keep (OS.keepLe (OB.box_eq (by first | rfl | omega | assumption)) (OS.keep OS.nil))))))
          · refine DO.w rfl ?_
            refine WP.mk Ls.length .n rfl rfl rfl (by first | omega | simp) Try.underlying67 el27_val z27_val fun v45 => ?_
            refine WP.nil ?_
            refine DO.nx ?_
            refine DA.go 3 [] (by kernel_rfl) ⟨?_, trivial⟩
            refine DO.w rfl ?_
            refine WP.mk D.length .n rfl rfl rfl (by first | omega | simp) Try.underlying27 el31_C z31_C fun v46 => ?_
            refine WP.nil ?_
            refine DO.nx ?_
            refine ST.rowcell 0 rfl fun hcell_ => ?_
            refine ST.rowcell 1 rfl fun hcell_ => ?_
            refine DA.first 8 rfl (by kernel_rfl) (by kernel_rfl) (by kernel_rfl) (fun _ _ _ _ _ h => h) .n (OV.bld lit93_pr_val_val_ rfl (evp.l rfl (ex_val (by first | rfl | assumption)) (evp.l rfl (ex_val (by first | rfl | assumption)) evp.n)) (.cons rfl (Lens.fst (Lens.id _)) (.cons rfl (Lens.snd (Lens.id _)) (.nil _)))) ?_
            refine DA.go 10 [] (by kernel_rfl) ⟨?_, trivial⟩
            refine DO.w rfl ?_
            refine WP.t .n (O.stW (l := (kPair kVal kVal)) (u := (v46, v45)) 2 rfl rfl rfl ty93 rfl (VP.le_refl _)) ?_
            refine WP.nil ?_
            refine DO.nx ?_
            refine DA.nil (by kernel_rfl) ?_
            refine ST.oimp (OImp.ix [1, 0, 2, 3, 4] (by decide) rfl) ?_
            exact QE.mid3 b42 v46 v45 trivial (Imp.cons rfl (Imp.cons rfl (Imp.cons rfl Imp.nil))) (OImp.os (OS.keepLe (OB.row_eq (by first | rfl | omega | assumption)) (OS.keep (OS.keep (OS.keepLe (OB.box_eq (by first | rfl | omega | assumption)) (OS.keep OS.nil))))))
      · refine DO.w rfl ?_
        refine WP.mk Ls.length .n rfl rfl rfl (by first | omega | simp) Try.underlying67 el27_val z27_val fun v47 => ?_
        refine WP.nil ?_
        refine DO.nx ?_
        refine DA.go 1 [9] (by kernel_rfl) ⟨?_, ⟨?_, trivial⟩⟩
        · refine DO.w rfl ?_
          refine WP.s .n (O.ld (p := (kSl kC).is D) rfl (mem_at 2 rfl) (Lens.fst (Lens.id _)) ty27 rfl) ?_
          refine WP.nil ?_
          refine DO.nx ?_
          refine DA.first 2 rfl (by kernel_rfl) (by kernel_rfl) (by kernel_rfl) (fun _ _ _ _ _ h => h) .n (OV.lenS rfl Try.underlying27) ?_
          refine DA.go 3 [9] (by kernel_rfl) ⟨?_, ⟨?_, trivial⟩⟩
          · refine DO.w rfl ?_
            refine WP.mk D.length .n rfl rfl rfl (by first | omega | simp) Try.underlying27 el31_C z31_C fun v48 => ?_
            refine WP.nil ?_
            refine DO.nx ?_
            refine ST.rowcell 0 rfl fun hcell_ => ?_
            refine ST.rowcell 1 rfl fun hcell_ => ?_
            refine DA.first 8 rfl (by kernel_rfl) (by kernel_rfl) (by kernel_rfl) (fun _ _ _ _ _ h => h) .n (OV.bld lit93_pr_val_val_ rfl (evp.l rfl (ex_val (by first | rfl | assumption)) (evp.l rfl (ex_val (by first | rfl | assumption)) evp.n)) (.cons rfl (Lens.fst (Lens.id _)) (.cons rfl (Lens.snd (Lens.id _)) (.nil _)))) ?_
            refine DA.go 9 [] (by kernel_rfl) ⟨?_, trivial⟩
            refine DO.w rfl ?_
            refine WP.al .n z93_pr_val_val_ fun b49 => ?_
            refine WP.nil ?_
            refine DO.nx ?_
            refine DA.go 10 [] (by kernel_rfl) ⟨?_, trivial⟩
            refine DO.w rfl ?_
            refine WP.t .n (O.stW (l := (kPair kVal kVal)) (u := (v48, v47)) 0 rfl rfl rfl ty93 rfl (VP.le_refl _)) ?_
            refine WP.nil ?_
            refine DO.nx ?_
            refine DA.nil (by kernel_rfl) ?_
            refine ST.oimp (OImp.ix [2, 1, 0, 3, 4] (by decide) rfl) ?_
            exact QE.mid3 b49 v48 v47 trivial (Imp.cons rfl (Imp.cons rfl (Imp.cons rfl Imp.nil))) (OImp.os (OS.keepLe (OB.row_eq (by first | rfl | omega | assumption)) (OS.keep (OS.keep (OS.keepLe (OB.box_eq (by first | rfl | omega | assumption)) (OS.keep OS.nil))))))
          · refine DO.w rfl ?_
            refine WP.al .n z93_pr_val_val_ fun b50 => ?_
            refine WP.nil ?_
            refine DO.nx ?_
            refine DA.go 3 [] (by kernel_rfl) ⟨?_, trivial⟩
            refine DO.w rfl ?_
            refine WP.mk D.length .n rfl rfl rfl (by first | omega | simp) Try.underlying27 el31_C z31_C fun v51 => ?_
            refine WP.nil ?_
            refine DO.nx ?_
            refine ST.rowcell 0 rfl fun hcell_ => ?_
            refine ST.rowcell 2 rfl fun hcell_ => ?_
            refine DA.first 8 rfl (by kernel_rfl) (by kernel_rfl) (by kernel_rfl) (fun _ _ _ _ _ h => h) .n (OV.bld lit93_pr_val_val_ rfl (evp.l rfl (ex_val (by first | rfl | assumption)) (evp.l rfl (ex_val (by first | rfl | assumption)) evp.n)) (.cons rfl (Lens.fst (Lens.id _)) (.cons rfl (Lens.snd (Lens.id _)) (.nil _)))) ?_
            refine DA.go 10 [] (by kernel_rfl) ⟨?_, trivial⟩
            refine DO.w rfl ?_
            refine WP.t .n (O.stW (l := (kPair kVal kVal)) (u := (v51, v47)) 1 rfl rfl rfl ty93 rfl (VP.le_refl _)) ?_
            refine WP.nil ?_
            refine DO.nx ?_
            refine DA.nil (by kernel_rfl) ?_
            refine ST.oimp (OImp.ix [2, 0, 1, 3, 4] (by decide) rfl) ?_
            exact QE.mid3 b50 v51 v47 trivial (Imp.cons rfl (Imp.cons rfl (Imp.cons rfl Imp.nil))) (OImp.os (OS.keepLe (OB.row_eq (by first | rfl | omega | assumption)) (OS.keep (OS.keep (OS.keepLe (OB.box_eq (by first | rfl | omega | assumption)) (OS.keep OS.nil))))))
        · refine DO.w rfl ?_
          refine WP.al .n z93_pr_val_val_ fun b52 => ?_
          refine WP.nil ?_
          refine DO.nx ?_
          refine DA.go 1 [] (by kernel_rfl) ⟨?_, trivial⟩
          refine DO.w rfl ?_
          refine WP.s .n (O.ld (p := (kSl kC).is D) rfl (mem_at 3 rfl) (Lens.fst (Lens.id _)) ty27 rfl) ?_
          refine WP.nil ?_
          refine DO.nx ?_
          refine DA.first 2 rfl (by kernel_rfl) (by kernel_rfl) (by kernel_rfl) (fun _ _ _ _ _ h => h) .n (OV.lenS rfl Try.underlying27) ?_
          refine DA.go 3 [] (by kernel_rfl) ⟨?_, trivial⟩
          refine DO.w rfl ?_
          refine WP.mk D.length .n rfl rfl rfl (by first | omega | simp) Try.underlying27 el31_C z31_C fun v53 => ?_
          refine WP.nil ?_
          refine DO.nx ?_
          refine ST.rowcell 0 rfl fun hcell_ => ?_
          refine ST.rowcell 2 rfl fun hcell_ => ?_
          refine DA.first 8 rfl (by kernel_rfl) (by kernel_rfl) (by kernel_rfl) (fun _ _ _ _ _ h => h) .n (OV.bld lit93_pr_val_val_ rfl (evp.l rfl (ex_val (by first | rfl | assumption)) (evp.l rfl (ex_val (by first | rfl | assumption)) evp.n)) (.cons rfl (Lens.fst (Lens.id _)) (.cons rfl (Lens.snd (Lens.id _)) (.nil _)))) ?_
          refine DA.go 10 [] (by kernel_rfl) ⟨?_, trivial⟩
          refine DO.w rfl ?_
          refine WP.t .n (O.stW (l := (kPair kVal kVal)) (u := (v53, v47)) 1 rfl rfl rfl ty93 rfl (VP.le_refl _)) ?_
          refine WP.nil ?_
          refine DO.nx ?_
          refine DA.nil (by kernel_rfl) ?_
          refine ST.oimp (OImp.ix [2, 0, 1, 3, 4] (by decide) rfl) ?_
          exact QE.mid3 b52 v53 v47 trivial (Imp.cons rfl (Imp.cons rfl (Imp.cons rfl Imp.nil))) (OImp.os (OS.keepLe (OB.row_eq (by first | rfl | omega | assumption)) (OS.keep (OS.keep (OS.keepLe (OB.box_eq (by first | rfl | omega | assumption)) (OS.keep OS.nil))))))
      · refine DO.w rfl ?_
        refine WP.al .n z93_pr_val_val_ fun b54 => ?_
        refine WP.nil ?_
        refine DO.nx ?_
        refine DA.go 1 [7] (by kernel_rfl) ⟨?_, ⟨?_, trivial⟩⟩
        · refine DO.w rfl ?_
          refine WP.s .n (O.ld (p := (kSl kC).is D) rfl (mem_at 2 rfl) (Lens.fst (Lens.id _)) ty27 rfl) ?_
          refine WP.nil ?_
          refine DO.nx ?_
          refine DA.first 2 rfl (by kernel_rfl) (by kernel_rfl) (by kernel_rfl) (fun _ _ _ _ _ h => h) .n (OV.lenS rfl Try.underlying27) ?_
          refine DA.go 3 [7] (by kernel_rfl) ⟨?_, ⟨?_, trivial⟩⟩
          · refine DO.w rfl ?_
            refine WP.mk D.length .n rfl rfl rfl (by first | omega | simp) Try.underlying27 el31_C z31_C fun v55 => ?_
            refine WP.nil ?_
            refine DO.nx ?_
            refine DA.go 7 [] (by kernel_rfl) ⟨?_, trivial⟩
            refine DO.w rfl ?_
            refine WP.mk Ls.length .n rfl rfl rfl (by first | omega | simp) Try.underlying67 el27_val z27_val fun v56 => ?_
            refine WP.nil ?_
            refine DO.nx ?_
            refine ST.rowcell 1 rfl fun hcell_ => ?_
            refine ST.rowcell 0 rfl fun hcell_ => ?_
            refine DA.first 8 rfl (by kernel_rfl) (by kernel_rfl) (by kernel_rfl) (fun _ _ _ _ _ h => h) .n (OV.bld lit93_pr_val_val_ rfl (evp.l rfl (ex_val (by first | rfl | assumption)) (evp.l rfl (ex_val (by first | rfl | assumption)) evp.n)) (.cons rfl (Lens.fst (Lens.id _)) (.cons rfl (Lens.snd (Lens.id _)) (.nil _)))) ?_
            refine DA.go 10 [] (by kernel_rfl) ⟨?_, trivial⟩
            refine DO.w rfl ?_
            refine WP.t .n (O.stW (l := (kPair kVal kVal)) (u := (v55, v56)) 2 rfl rfl rfl ty93 rfl (VP.le_refl _)) ?_
            refine WP.nil ?_
            refine DO.nx ?_
            refine DA.nil (by kernel_rfl) ?_
            refine ST.oimp (OImp.ix [0, 1, 2, 3, 4] (by decide) rfl) ?_
            exact QE.mid3 b54 v55 v56 trivial (Imp.cons rfl (Imp.cons rfl (Imp.cons rfl Imp.nil))) (OImp.os (OS.keepLe (OB.row_eq (by first | rfl | omega | assumption)) (OS.keep (OS.keep (OS.keepLe (OB.box_eq (by first | rfl | omega | assumption)) (OS.keep OS.nil))))))
          · refine DO.w rfl ?_
            refine WP.mk Ls.length .n rfl rfl rfl (by first | omega | simp) Try.underlying67 el27_val z27_val fun v57 => ?_
            refine WP.nil ?_
            refine DO.nx ?_
            refine DA.go 3 [] (by kernel_rfl) ⟨?_, trivial⟩
            refine DO.w rfl ?_
            refine WP.mk D.length .n rfl rfl rfl (by first | omega | simp) Try.underlying27 el31_C z31_C fun v58 => ?_
            refine WP.nil ?_
            refine DO.nx ?_
            refine ST.rowcell 0 rfl fun hcell_ => ?_
            refine ST.rowcell 1 rfl fun hcell_ => ?_
            refine DA.first 8 rfl (by kernel_rfl) (by kernel_rfl) (by kernel_rfl) (fun _ _ _ _ _ h => h) .n (OV.bld lit93_pr_val_val_ rfl (evp.l rfl (ex_val (by first | rfl | assumption)) (evp.l rfl (ex_val (by first | rfl | assumption)) evp.n)) (.cons rfl (Lens.fst (Lens.id _)) (.cons rfl (Lens.snd (Lens.id _)) (.nil _)))) ?_
            refine DA.go 10 [] (by kernel_rfl) ⟨?_, trivial⟩
            refine DO.w rfl ?_
            refine WP.t .n (O.stW (l := (kPair kVal kVal)) (u := (v58, v57)) 2 rfl rfl rfl ty93 rfl (VP.le_refl _)) ?_
            refine WP.nil ?_
            refine DO.nx ?_
            refine DA.nil (by kernel_rfl) ?_
            refine ST.oimp (OImp.ix [1, 0, 2, 3, 4] (by decide) rfl) ?_
            exact QE.mid3 b54 v58 v57 trivial (Imp.cons rfl (Imp.cons rfl (Imp.cons rfl Imp.nil))) (OImp.os (OS.keepLe (OB.row_eq (by first | rfl | omega | assumption)) (OS.keep (OS.keep (OS.keepLe (OB.box_eq (by first | rfl | omega | assumption)) (OS.keep OS.nil))))))
        · refine DO.w rfl ?_
          refine WP.mk Ls.length .n rfl rfl rfl (by first | omega | simp) Try.underlying67 el27_val z27_val fun v59 => ?_
          refine WP.nil ?_
          refine DO.nx ?_
          refine DA.go 1 [] (by kernel_rfl) ⟨?_, trivial⟩
          refine DO.w rfl ?_
          refine WP.s .n (O.ld (p := (kSl kC).is D) rfl (mem_at 3 rfl) (Lens.fst (Lens.id _)) ty27 rfl) ?_
          refine WP.nil ?_
          refine DO.nx ?_
          refine DA.first 2 rfl (by kernel_rfl) (by kernel_rfl) (by kernel_rfl) (fun _ _ _ _ _ h => h) .n (OV.lenS rfl Try.underlying27) ?_
          refine DA.go 3 [] (by kernel_rfl) ⟨?_, trivial⟩
          refine DO.w rfl ?_
          refine WP.mk D.length .n rfl rfl rfl (by first | omega | simp) Try.underlying27 el31_C z31_C fun v60 => ?_
          refine WP.nil ?_
          refine DO.nx ?_
          refine ST.rowcell 0 rfl fun hcell_ => ?_
          refine ST.rowcell 1 rfl fun hcell_ => ?_
          refine DA.first 8 rfl (by kernel_rfl) (by kernel_rfl) (by kernel_rfl) (fun _ _ _ _ _ h => h) .n (OV.bld lit93_pr_val_val_ rfl (evp.l rfl (ex_val (by first | rfl | assumption)) (evp.l rfl (ex_val (by first | rfl | assumption)) evp.n)) (.cons rfl (Lens.fst (Lens.id _)) (.cons rfl (Lens.snd (Lens.id _)) (.nil _)))) ?_
          refine DA.go 10 [] (by kernel_rfl) ⟨?_, trivial⟩
          refine DO.w rfl ?_
          refine WP.t .n (O.stW (l := (kPair kVal kVal)) (u := (v60, v59)) 2 rfl rfl rfl ty93 rfl (VP.le_refl _)) ?_
          refine WP.nil ?_
          refine DO.nx ?_
          refine DA.nil (by kernel_rfl) ?_
          refine ST.oimp (OImp.ix [1, 0, 2, 3, 4] (by decide) rfl) ?_
          exact QE.mid3 b54 v60 v59 trivial (Imp.cons rfl (Imp.cons rfl (Imp.cons rfl Imp.nil))) (OImp.os (OS.keepLe (OB.row_eq (by first | rfl | omega | assumption)) (OS.keep (OS.keep (OS.keepLe (OB.box_eq (by first | rfl | omega | assumption)) (OS.keep OS.nil))))))
    · refine DO.w rfl ?_
      refine WP.al .n z93_pr_val_val_ fun b61 => ?_
      refine WP.nil ?_
      refine DO.nx ?_
      refine DA.go 1 [5] (by kernel_rfl) ⟨?_, ⟨?_, trivial⟩⟩
      · refine DO.w rfl ?_
        refine WP.s .n (O.ld (p := (kSl kC).is D) rfl (mem_at 2 rfl) (Lens.fst (Lens.id _)) ty27 rfl) ?_
        refine WP.nil ?_
        refine DO.nx ?_
        refine DA.first 2 rfl (by kernel_rfl) (by kernel_rfl) (by kernel_rfl) (fun _ _ _ _ _ h => h) .n (OV.lenS rfl Try.underlying27) ?_
        refine DA.go 3 [5] (by kernel_rfl) ⟨?_, ⟨?_, trivial⟩⟩
        · refine DO.w rfl ?_
          refine WP.mk D.length .n rfl rfl rfl (by first | omega | simp) Try.underlying27 el31_C z31_C fun v62 => ?_
          refine WP.nil ?_
          refine DO.nx ?_
          refine DA.go 5 [] (by kernel_rfl) ⟨?_, trivial⟩
          refine DO.w rfl ?_
          refine WP.s .n (O.ld (p := (kSl (kSl kC)).is Ls) rfl (mem_at 3 rfl) (Lens.snd (Lens.id _)) ty67 rfl) ?_
          refine WP.nil ?_
          refine DO.nx ?_
          refine DA.first 6 rfl (by kernel_rfl) (by kernel_rfl) (by kernel_rfl) (fun _ _ _ _ _ h => h) .n (OV.lenS rfl Try.underlying67) ?_
          refine DA.go 7 [] (by kernel_rfl) ⟨?_, trivial⟩
          refine DO.w rfl ?_
          refine WP.mk Ls.length .n rfl rfl rfl (by first | omega | simp) Try.underlying67 el27_val z27_val fun v63 => ?_
          refine WP.nil ?_
          refine DO.nx ?_
          refine ST.rowcell 1 rfl fun hcell_ => ?_
          refine ST.rowcell 0 rfl fun hcell_ => ?_
          refine DA.first 8 rfl (by kernel_rfl) (by kernel_rfl) (by kernel_rfl) (fun _ _ _ _ _ h => h) .n (OV.bld lit93_pr_val_val_ rfl (evp.l rfl (ex_val (by first | rfl | assumption)) (evp.l rfl (ex_val (by first | rfl | assumption)) evp.n)) (.cons rfl (Lens.fst (Lens.id _)) (.cons rfl (Lens.snd (Lens.id _)) (.nil _)))) ?_
          refine DA.go 10 [] (by kernel_rfl) ⟨?_, trivial⟩
          refine DO.w rfl ?_
          refine WP.t .n (O.stW (l := (kPair kVal kVal)) (u := (v62, v63)) 2 rfl rfl rfl ty93 rfl (VP.le_refl _)) ?_
          refine WP.nil ?_
          refine DO.nx ?_
          refine DA.nil (by kernel_rfl) ?_
          refine ST.oimp (OImp.ix [0, 1, 2, 3, 4] (by decide) rfl) ?_
          exact QE.mid3 b61 v62 v63 trivial (Imp.cons rfl (Imp.cons rfl (Imp.cons rfl Imp.nil))) (OImp.os (OS.keepLe (OB.row_eq (by first | rfl | omega | assumption)) (OS.keep (OS.keep (OS.keepLe (OB.box_eq (by first | rfl | omega | assumption)) (OS.keep OS.nil))))))
        · refine DO.w rfl ?_
          refine WP.s .n (O.ld (p := (kSl (kSl kC)).is Ls) rfl (mem_at 2 rfl) (Lens.snd (Lens.id _)) ty67 rfl) ?_
          refine WP.nil ?_
          refine DO.nx ?_
          refine DA.first 6 rfl (by kernel_rfl) (by kernel_rfl) (by kernel_rfl) (fun _ _ _ _ _ h => h) .n (OV.lenS rfl Try.underlying67) ?_
          refine DA.go 3 [7] (by kernel_rfl) ⟨?_, ⟨?_, trivial⟩⟩
          · refine DO.w rfl ?_
            refine WP.mk D.length .n rfl rfl rfl (by first | omega | simp) Try.underlying27 el31_C z31_C fun v64 => ?_
            refine WP.nil ?_
            refine DO.nx ?_
            refine DA.go 7 [] (by kernel_rfl) ⟨?_, trivial⟩
            refine DO.w rfl ?_
            refine WP.mk Ls.length .n rfl rfl rfl (by first | omega | simp) Try.underlying67 el27_val z27_val fun v65 => ?_
            refine WP.nil ?_
            refine DO.nx ?_
            refine ST.rowcell 1 rfl fun hcell_ => ?_
            refine ST.rowcell 0 rfl fun hcell_ => ?_
            refine DA.first 8 rfl (by kernel_rfl) (by kernel_rfl) (by kernel_rfl) (fun _ _ _ _ _ h => h) .n (OV.bld lit93_pr_val_val_ rfl (evp.l rfl (ex_val (by first | rfl | assumption)) (evp.l rfl (ex_val (by first | rfl | assumption)) evp.n)) (.cons rfl (Lens.fst (Lens.id _)) (.cons rfl (Lens.snd (Lens.id _)) (.nil _)))) ?_
            refine DA.go 10 [] (by kernel_rfl) ⟨?_, trivial⟩
            refine DO.w rfl ?_
            refine WP.t .n (O.stW (l := (kPair kVal kVal)) (u := (v64, v65)) 2 rfl rfl rfl ty93 rfl (VP.le_refl _)) ?_
            refine WP.nil ?_
            refine DO.nx ?_
            refine DA.nil (by kernel_rfl) ?_
            refine ST.oimp (OImp.ix [0, 1, 2, 3, 4] (by decide) rfl) ?_
            exact QE.mid3 b61 v64 v65 trivial (Imp.cons rfl (Imp.cons rfl (Imp.cons rfl Imp.nil))) (OImp.os (OS.keepLe (OB.row_eq (by first | rfl | omega | assumption)) (OS.keep (OS.keep (OS.keepLe (OB.box_eq (by first | rfl | omega | assumption)) (OS.keep OS.nil))))))
          · refine DO.w rfl ?_
            refine WP.mk Ls.length .n rfl rfl rfl (by first | omega | simp) Try.underlying67 el27_val z27_val fun v66 => ?_
            refine WP.nil ?_
            refine DO.nx ?_
            refine DA.go 3 [] (by kernel_rfl) ⟨?_, trivial⟩
            refine DO.w rfl ?_
            refine WP.mk D.length .n rfl rfl rfl (by first | omega | simp) Try.underlying27 el31_C z31_C fun v67 => ?_
            refine WP.nil ?_
            refine DO.nx ?_
            refine ST.rowcell 0 rfl fun hcell_ => ?_
            refine ST.rowcell 1 rfl fun hcell_ => ?_
            refine DA.first 8 rfl (by kernel_rfl) (by kernel_rfl) (by kernel_rfl) (fun _ _ _ _ _ h => h) .n (OV.bld lit93_pr_val_val_ rfl (evp.l rfl (ex_val (by first | rfl | assumption)) (evp.l rfl (ex_val (by first | rfl | assumption)) evp.n)) (.cons rfl (Lens.fst (Lens.id _)) (.cons rfl (Lens.snd (Lens.id _)) (.nil _)))) ?_
            refine DA.go 10 [] (by kernel_rfl) ⟨?_, trivial⟩
            refine DO.w rfl ?_
            refine WP.t .n (O.stW (l := (kPair kVal kVal)) (u := (v67, v66)) 2 rfl rfl rfl ty93 rfl (VP.le_refl _)) ?_
            refine WP.nil ?_
            refine DO.nx ?_
            refine DA.nil (by kernel_rfl) ?_
            refine ST.oimp (OImp.ix [1, 0, 2, 3, 4] (by decide) rfl) ?_
            exact QE.mid3 b61 v67 v66 trivial (Imp.cons rfl (Imp.cons rfl (Imp.cons rfl Imp.nil))) (OImp.os (OS.keepLe (OB.row_eq (by first | rfl | omega | assumption)) (OS.keep (OS.keep (OS.keepLe (OB.box_eq (by first | rfl | omega | assumption)) (OS.keep OS.nil))))))
      · refine DO.w rfl ?_
        refine WP.s .n (O.ld (p := (kSl (kSl kC)).is Ls) rfl (mem_at 2 rfl) (Lens.snd (Lens.id _)) ty67 rfl) ?_
        refine WP.nil ?_
        refine DO.nx ?_
        refine DA.first 6 rfl (by kernel_rfl) (by kernel_rfl) (by kernel_rfl) (fun _ _ _ _ _ h => h) .n (OV.lenS rfl Try.underlying67) ?_
        refine DA.go 1 [7] (by kernel_rfl) ⟨?_, ⟨?_, trivial⟩⟩
        · refine DO.w rfl ?_
          refine WP.s .n (O.ld (p := (kSl kC).is D) rfl (mem_at 2 rfl) (Lens.fst (Lens.id _)) ty27 rfl) ?_
          refine WP.nil ?_
          refine DO.nx ?_
          refine DA.first 2 rfl (by kernel_rfl) (by kernel_rfl) (by kernel_rfl) (fun _ _ _ _ _ h => h) .n (OV.lenS rfl Try.underlying27) ?_
          refine DA.go 3 [7] (by kernel_rfl) ⟨?_, ⟨?_, trivial⟩⟩
          · refine DO.w rfl ?_
            refine WP.mk D.length .n rfl rfl rfl (by first | omega | simp) Try.underlying27 el31_C z31_C fun v68 => ?_
            refine WP.nil ?_
            refine DO.nx ?_
            refine DA.go 7 [] (by kernel_rfl) ⟨?_, trivial⟩
            refine DO.w rfl ?_
            refine WP.mk Ls.length .n rfl rfl rfl (by first | omega | simp) Try.underlying67 el27_val z27_val fun v69 => ?_
            refine WP.nil ?_
            refine DO.nx ?_
            refine ST.rowcell 1 rfl fun hcell_ => ?_
            refine ST.rowcell 0 rfl fun hcell_ => ?_
            refine DA.first 8 rfl (by kernel_rfl) (by kernel_rfl) (by kernel_rfl) (fun _ _ _ _ _ h => h) .n (OV.bld lit93_pr_val_val_ rfl (evp.l rfl (ex_val (by first | rfl | assumption)) (evp.l rfl (ex_val (by first | rfl | assumption)) evp.n)) (.cons rfl (Lens.fst (Lens.id _)) (.cons rfl (Lens.snd (Lens.id _)) (.nil _)))) ?_
            refine DA.go 10 [] (by kernel_rfl) ⟨?_, trivial⟩
            refine DO.w rfl ?_
            refine WP.t .n (O.stW (l := (kPair kVal kVal)) (u := (v68, v69)) 2 rfl rfl rfl ty93 rfl (VP.le_refl _)) ?_
            refine WP.nil ?_
            refine DO.nx ?_
            refine DA.nil (by kernel_rfl) ?_
            refine ST.oimp (OImp.ix [0, 1, 2, 3, 4] (by decide) rfl) ?_
            exact QE.mid3 b61 v68 v69 trivial (Imp.cons rfl (Imp.cons rfl (Imp.cons rfl Imp.nil))) (OImp.os (OS.keepLe (OB.row_eq (by first | rfl | omega | assumption)) (OS.keep (OS.keep (OS.keepLe (OB.box_eq (by first | rfl | omega | assumption)) (OS.keep OS.nil))))))
          · refine DO.w rfl ?_
            refine WP.mk Ls.length .n rfl rfl rfl (by first | omega | simp) Try.underlying67 el27_val z27_val fun v70 => ?_
            refine WP.nil ?_
            refine DO.nx ?_
            refine DA.go 3 [] (by kernel_rfl) ⟨?_, trivial⟩
            refine DO.w rfl ?_
            refine WP.mk D.length .n rfl rfl rfl (by first | omega | simp) Try.underlying27 el31_C z31_C fun v71 => ?_
            refine WP.nil ?_
            refine DO.nx ?_
            refine ST.rowcell 0 rfl fun hcell_ => ?_
            refine ST.rowcell 1 rfl fun hcell_ => ?_
            refine DA.first 8 rfl (by kernel_rfl) (by kernel_rfl) (by kernel_rfl) (fun _ _ _ _ _ h => h) .n (OV.bld lit93_pr_val_val_ rfl (evp.l rfl (ex_val (by first | rfl | assumption)) (evp.l rfl (ex_val (by first | rfl | assumption)) evp.n)) (.cons rfl (Lens.fst (Lens.id _)) (.cons rfl (Lens.snd (Lens.id _)) (.nil _)))) ?_
            refine DA.go 10 [] (by kernel_rfl) ⟨?_, trivial⟩
            refine DO.w rfl ?_
            refine WP.t .n (O.stW (l := (kPair kVal kVal)) (u := (v71, v70)) 2 rfl rfl rfl ty93 rfl (VP.le_refl _)) ?_
            refine WP.nil ?_
            refine DO.nx ?_
            refine DA.nil (by kernel_rfl) ?_
            refine ST.oimp (OImp.ix [1, 0, 2, 3, 4] (by decide) rfl) ?_
            exact QE.mid3 b61 v71 v70 trivial (Imp.cons rfl (Imp.cons rfl (Imp.cons rfl Imp.nil))) (OImp.os (OS.keepLe (OB.row_eq (by first | rfl | omega | assumption)) (OS.keep (OS.keep (OS.keepLe (OB.box_eq (by first | rfl | omega | assumption)) (OS.keep OS.nil))))))
        · refine DO.w rfl ?_
          refine WP.mk Ls.length .n rfl rfl rfl (by first | omega | simp) Try.underlying67 el27_val z27_val fun v72 => ?_
          refine WP.nil ?_
          refine DO.nx ?_
          refine DA.go 1 [] (by kernel_rfl) ⟨?_, trivial⟩
          refine DO.w rfl ?_
          refine WP.s .n (O.ld (p := (kSl kC).is D) rfl (mem_at 3 rfl) (Lens.fst (Lens.id _)) ty27 rfl) ?_
          refine WP.nil ?_
          refine DO.nx ?_
          refine DA.first 2 rfl (by kernel_rfl) (by kernel_rfl) (by kernel_rfl) (fun _ _ _ _ _ h => h) .n (OV.lenS rfl Try.underlying27) ?_
          refine DA.go 3 [] (by kernel_rfl) ⟨?_, trivial⟩
          refine DO.w rfl ?_
          refine WP.mk D.length .n rfl rfl rfl (by first | omega | simp) Try.underlying27 el31_C z31_C fun v73 => ?_
          refine WP.nil ?_
          refine DO.nx ?_
          refine ST.rowcell 0 rfl fun hcell_ => ?_
          refine ST.rowcell 1 rfl fun hcell_ => ?_
          refine DA.first 8 rfl (by kernel_rfl) (by kernel_rfl) (by kernel_rfl) (fun _ _ _ _ _ h => h) .n (OV.bld lit93_pr_val_val_ rfl (evp.l rfl (ex_val (by first | rfl | assumption)) (evp.l rfl (ex_val (by first | rfl | assumption)) evp.n)) (.cons rfl (Lens.fst (Lens.id _)) (.cons rfl (Lens.snd (Lens.id _)) (.nil _)))) ?_
          refine DA.go 10 [] (by kernel_rfl) ⟨?_, trivial⟩
          refine DO.w rfl ?_
          refine WP.t .n (O.stW (l := (kPair kVal kVal)) (u := (v73, v72)) 2 rfl rfl rfl ty93 rfl (VP.le_refl _)) ?_
          refine WP.nil ?_
          refine DO.nx ?_
          refine DA.nil (by kernel_rfl) ?_
          refine ST.oimp (OImp.ix [1, 0, 2, 3, 4] (by decide) rfl) ?_
          exact QE.mid3 b61 v73 v72 trivial (Imp.cons rfl (Imp.cons rfl (Imp.cons rfl Imp.nil))) (OImp.os (OS.keepLe (OB.row_eq (by first | rfl | omega | assumption)) (OS.keep (OS.keep (OS.keepLe (OB.box_eq (by first | rfl | omega | assumption)) (OS.keep OS.nil))))))
  intro pb vD vL hR
  refine CW.seq ?_
  refine CW.draw (Γ := [.fr (VP.ex (.pointer (some ⟨pb, 0, none⟩))), .fr (VP.ex vD), .fr (VP.ex (.pointer (some ⟨b1, 0, none⟩))), .fr ((kSl kC).is D), .fr ((kSl (kSl kC)).is [D]), .fr ((kSl (kSl kC)).is [D]), .fr (VP.pim (kSl kC) D), .fr ((kSl kC).is D)]) (lates := [false, false, false, false, false, false, false, false]) (by kernel_rfl) (Chk.of rfl (by kernel_rfl) rfl) (fun _ _ _ _ _ h => h) (fun q_ x_ h_ => ?_) (fun σ2 => ?_)
  · match q_, h_ with
    | 0, h_ => cases h_; exact Ob.f rfl .n fun N => (O.fa rfl fld93_0 rfl)
    | 1, h_ => cases h_; exact Ob.f rfl .n fun N => (OpOk.le (O.ld (p := kVal.is vD) rfl (mem_app N (mem_at 2 rfl)) (Lens.fst (Lens.id _)) ty27 rfl) (val_ex _))
    | 2, h_ => cases h_; exact Ob.f rfl .n fun N => (O.fa rfl fld93_0 rfl)
    | 3, h_ => cases h_; exact Ob.f rfl .n fun N => (O.ld (p := (kSl kC).is D) rfl (mem_app N (mem_at 4 rfl)) (Lens.fst (Lens.id _)) ty27 rfl)
    | 4, h_ => cases h_; exact Ob.f rfl .n fun N => (O.bs Try.underlying67 el27_sl_C (evl.c rfl evl.n) rfl (by decide))
    | 5, h_ => cases h_; exact Ob.f rfl .n fun N => (O.fn fn259 (evs.l rfl (slslC_Z (by first | exact hD | exact hL | (intro r hr; rcases List.mem_cons.1 hr with rfl | hr; exact hD; cases hr))) evs.nil) (c_mat_Form [D] (by intro r hr; rcases List.mem_cons.1 hr with rfl | hr; exact hD; cases hr)))
    | 6, h_ => cases h_; exact Ob.f rfl .n fun N => (O.ix 0 rfl rfl Try.underlying67 ty27 rfl (v := D) (by rfl))
    | 7, h_ => cases h_; exact Ob.f rfl .n fun N => (O.ldP rfl ty27)
    | n_ + 8, h_ => simp at h_
  refine WP.s .n (O.cp 1 rfl rfl rfl (VP.le_refl _) Try.underlying27 el31_C) ?_
  refine WP.nil ?_
  refine QE.next ?_
  refine CW.seq ?_
  refine CW.any (by kernel_rfl) ?_
  refine DA.first 0 rfl (by kernel_rfl) (by kernel_rfl) (by kernel_rfl) (fun _ _ _ _ _ h => h) .n (OV.fa rfl fld93_1 rfl) ?_
  refine DA.first 2 rfl (by kernel_rfl) (by kernel_rfl) (by kernel_rfl) (fun _ _ _ _ _ h => h) .n (OV.fa rfl fld93_1 rfl) ?_
  refine DA.go 1 [3] (by kernel_rfl) ⟨?_, ⟨?_, trivial⟩⟩
  · refine DO.w rfl ?_
    refine WP.s .n (OpOk.le (O.ld (p := kVal.is vL) rfl (mem_at 2 rfl) (Lens.snd (Lens.id _)) ty67 rfl) (val_ex _)) ?_
    refine WP.nil ?_
    refine DO.nx ?_
    refine DA.go 3 [] (by kernel_rfl) ⟨?_, trivial⟩
    refine DO.w rfl ?_
    refine WP.s .n (O.ld (p := (kSl (kSl kC)).is Ls) rfl (mem_at 4 rfl) (Lens.snd (Lens.id _)) ty67 rfl) ?_
    refine WP.nil ?_
    refine DO.nx ?_
    refine DA.go 4 [] (by kernel_rfl) ⟨?_, trivial⟩
    refine DO.w rfl ?_
    refine WP.call (Li := []) (L := [OB.row vL 27 kVal (List.replicate Ls.length nilV), OB.row vD 31 kC (D.take (min D.length (List.replicate D.length 0).length) ++ (List.replicate D.length 0).drop (min D.length (List.replicate D.length 0).length)), OB.box pb 93 (kPair kVal kVal) (vD, vL), OB.box b2 93 (kPair kVal kVal) (nilV, nilV), OB.box b1 93 (kPair (kSl kC) (kSl (kSl kC))) (D, Ls)]) .n fn259 (evs.l rfl (slslC_Z (by first | exact hD | exact hL | (intro r hr; rcases List.mem_cons.1 hr with rfl | hr; exact hD; cases hr))) evs.nil) (c_mat_Formo Ls) fun p_ Lo_ hp_ => ?_
    obtain ⟨v74, vs_t26, rfl, rfl, hx_t26⟩ := hp_
    refine WP.nil ?_
    refine DO.nx ?_
    refine ST.freeze 0 rfl (.keep (i := 1) rfl (.keep (i := 2) rfl (.keep (i := 3) rfl (.keep (i := 13) rfl (.keep (i := 14) rfl (.keep (i := 15) rfl (.keep (i := 16) rfl (.keep (i := 17) rfl (.keep (i := 18) rfl (.keep (i := 19) rfl (.keep (i := 20) rfl (.keep (i := 21) rfl (.keep (i := 22) rfl (.keep (i := 23) rfl (.keep (i := 24) rfl (.keep (i := 25) rfl (.hit (i := 26) rfl .nil))))))))))))))))) ?_
    refine DA.go 5 [] (by kernel_rfl) ⟨?_, trivial⟩
    refine DO.w rfl ?_
    refine WP.s .n (O.cp 1 rfl rfl rfl (VP.le_refl _) Try.underlying67 el27_val) ?_
    refine WP.nil ?_
    refine DO.nx ?_
    refine DA.nil (by kernel_rfl) ?_
    refine QE.next ?_
    refine CW.seq ?_
    refine CW.region ?_
    refine WP.s .n (O.ld (p := (kPair kVal kVal).is (vD, vL)) rfl (mem_at 3 rfl) (Lens.id _) ty93 rfl) ?_
    refine WP.t .n (O.stW (l := (kPair kVal kVal)) (u := (vD, vL)) 4 rfl rfl rfl ty93 rfl (VP.le_refl _)) ?_
    refine WP.nil ?_
    refine QE.next ?_
    refine CW.ret ?_
    refine ST.obtold 2 rfl (OB.row_eq (ys := D) (copy_all (by simp))) ?_
    refine ST.obtold 1 rfl (OB.row_eq (ys := vs_t26) (copy_all (by simp [hx_t26]))) ?_
    refine ST.oimp (OImp.ix [2, 1, 0, 4] (by decide) rfl) ?_
    exact QE.done (.inl rfl) rfl (ResOk.c rfl (mem_at 3 rfl) ty93 ResOk.nil) (OImp.os (OS.keep (OS.keep (OS.keep (OS.skip OS.nil))))) ⟨vD, vL, vs_t26, rfl, rfl, hx_t26⟩
  · refine DO.w rfl ?_
    refine WP.s .n (O.ld (p := (kSl (kSl kC)).is Ls) rfl (mem_at 4 rfl) (Lens.snd (Lens.id _)) ty67 rfl) ?_
    refine WP.nil ?_
    refine DO.nx ?_
    refine DA.go 1 [4] (by kernel_rfl) ⟨?_, ⟨?_, trivial⟩⟩
    · refine DO.w rfl ?_
      refine WP.s .n (OpOk.le (O.ld (p := kVal.is vL) rfl (mem_at 2 rfl) (Lens.snd (Lens.id _)) ty67 rfl) (val_ex _)) ?_
      refine WP.nil ?_
      refine DO.nx ?_
      refine DA.go 4 [] (by kernel_rfl) ⟨?_, trivial⟩
      refine DO.w rfl ?_
      refine WP.call (Li := []) (L := [OB.row vL 27 kVal (List.replicate Ls.length nilV), OB.row vD 31 kC (D.take (min D.length (List.replicate D.length 0).length) ++ (List.replicate D.length 0).drop (min D.length (List.replicate D.length 0).length)), OB.box pb 93 (kPair kVal kVal) (vD, vL), OB.box b2 93 (kPair kVal kVal) (nilV, nilV), OB.box b1 93 (kPair (kSl kC) (kSl (kSl kC))) (D, Ls)]) .n fn259 (evs.l rfl (slslC_Z (by first | exact hD | exact hL | (intro r hr; rcases List.mem_cons.1 hr with rfl | hr; exact hD; cases hr))) evs.nil) (c_mat_Formo Ls) fun p_ Lo_ hp_ => ?_
      obtain ⟨v75, vs_t26, rfl, rfl, hx_t26⟩ := hp_
      refine WP.nil ?_
      refine DO.nx ?_
      refine ST.freeze 0 rfl (.keep (i := 1) rfl (.keep (i := 2) rfl (.keep (i := 3) rfl (.keep (i := 13) rfl (.keep (i := 14) rfl (.keep (i := 15) rfl (.keep (i := 16) rfl (.keep (i := 17) rfl (.keep (i := 18) rfl (.keep (i := 19) rfl (.keep (i := 20) rfl (.keep (i := 21) rfl (.keep (i := 22) rfl (.keep (i := 23) rfl (.keep (i := 24) rfl (.keep (i := 25) rfl (.hit (i := 26) rfl .nil))))))))))))))))) ?_
      refine DA.go 5 [] (by kernel_rfl) ⟨?_, trivial⟩
      refine DO.w rfl ?_
      refine WP.s .n (O.cp 1 rfl rfl rfl (VP.le_refl _) Try.underlying67 el27_val) ?_
      refine WP.nil ?_
      refine DO.nx ?_
      refine DA.nil (by kernel_rfl) ?_
      refine QE.next ?_
      refine CW.seq ?_
      refine CW.region ?_
      refine WP.s .n (O.ld (p := (kPair kVal kVal).is (vD, vL)) rfl (mem_at 3 rfl) (Lens.id _) ty93 rfl) ?_
      refine WP.t .n (O.stW (l := (kPair kVal kVal)) (u := (vD, vL)) 4 rfl rfl rfl ty93 rfl (VP.le_refl _)) ?_
      refine WP.nil ?_
      refine QE.next ?_
      refine CW.ret ?_
      refine ST.obtold 2 rfl (OB.row_eq (ys := D) (copy_all (by simp))) ?_
      refine ST.obtold 1 rfl (OB.row_eq (ys := vs_t26) (copy_all (by simp [hx_t26]))) ?_
      refine ST.oimp (OImp.ix [2, 1, 0, 4] (by decide) rfl) ?_
      exact QE.done (.inl rfl) rfl (ResOk.c rfl (mem_at 3 rfl) ty93 ResOk.nil) (OImp.os (OS.keep (OS.keep (OS.keep (OS.skip OS.nil))))) ⟨vD, vL, vs_t26, rfl, rfl, hx_t26⟩
    · refine DO.w rfl ?_
      refine WP.call (Li := []) (L := [OB.row vL 27 kVal (List.replicate Ls.length nilV), OB.row vD 31 kC (D.take (min D.length (List.replicate D.length 0).length) ++ (List.replicate D.length 0).drop (min D.length (List.replicate D.length 0).length)), OB.box pb 93 (kPair kVal kVal) (vD, vL), OB.box b2 93 (kPair kVal kVal) (nilV, nilV), OB.box b1 93 (kPair (kSl kC) (kSl (kSl kC))) (D, Ls)]) .n fn259 (evs.l rfl (slslC_Z (by first | exact hD | exact hL | (intro r hr; rcases List.mem_cons.1 hr with rfl | hr; exact hD; cases hr))) evs.nil) (c_mat_Formo Ls) fun p_ Lo_ hp_ => ?_
      obtain ⟨v76, vs_t26, rfl, rfl, hx_t26⟩ := hp_
      refine WP.nil ?_
      refine DO.nx ?_
      refine DA.go 1 [] (by kernel_rfl) ⟨?_, trivial⟩
      refine DO.w rfl ?_
      refine WP.s .n (OpOk.le (O.ld (p := kVal.is vL) rfl (mem_at 4 rfl) (Lens.snd (Lens.id _)) ty67 rfl) (val_ex _)) ?_
      refine WP.nil ?_
      refine DO.nx ?_
      refine ST.freeze 0 rfl (.keep (i := 1) rfl (.keep (i := 2) rfl (.keep (i := 3) rfl (.keep (i := 13) rfl (.keep (i := 14) rfl (.keep (i := 15) rfl (.keep (i := 16) rfl (.keep (i := 17) rfl (.keep (i := 18) rfl (.keep (i := 19) rfl (.keep (i := 20) rfl (.keep (i := 21) rfl (.keep (i := 22) rfl (.keep (i := 23) rfl (.keep (i := 24) rfl (.keep (i := 25) rfl (.hit (i := 26) rfl .nil))))))))))))))))) ?_
      refine DA.go 5 [] (by kernel_rfl) ⟨?_, trivial⟩
      refine DO.w rfl ?_
      refine WP.s .n (O.cp 1 rfl rfl rfl (VP.le_refl _) Try.underlying67 el27_val) ?_
      refine WP.nil ?_
      refine DO.nx ?_
      refine DA.nil (by kernel_rfl) ?_
      refine QE.next ?_
      refine CW.seq ?_
      refine CW.region ?_
      refine WP.s .n (O.ld (p := (kPair kVal kVal).is (vD, vL)) rfl (mem_at 3 rfl) (Lens.id _) ty93 rfl) ?_
      refine WP.t .n (O.stW (l := (kPair kVal kVal)) (u := (vD, vL)) 4 rfl rfl rfl ty93 rfl (VP.le_refl _)) ?_
      refine WP.nil ?_
      refine QE.next ?_
      refine CW.ret ?_
      refine ST.obtold 2 rfl (OB.row_eq (ys := D) (copy_all (by simp))) ?_
      refine ST.obtold 1 rfl (OB.row_eq (ys := vs_t26) (copy_all (by simp [hx_t26]))) ?_
      refine ST.oimp (OImp.ix [2, 1, 0, 4] (by decide) rfl) ?_
      exact QE.done (.inl rfl) rfl (ResOk.c rfl (mem_at 3 rfl) ty93 ResOk.nil) (OImp.os (OS.keep (OS.keep (OS.keep (OS.skip OS.nil))))) ⟨vD, vL, vs_t26, rfl, rfl, hx_t26⟩

set_option maxRecDepth 20000 in
set_option maxHeartbeats 1000000 in
theorem c_gso_AddRow1 (vD vL : Value) (bh : Nat) (vs : List Value) (xss : List (List Int)) (i k : Nat) (q y : Int) (hi : i < vs.length) (hk : k < (xss.getD i []).length) (h1 : Sm ((xss.getD i []).getD k 0)) (h2 : Sm (q * y)) : Con Try.prog 234 [(kInt .i64).is (k : Int), kZ.is y, VP.ex (.pointer (some ⟨bh, 0, none⟩)), VP.pim (kInt .i64) (i : Int), VP.pim kZ q] [OB.box bh 93 (kPair kVal kVal) (vD, vL), OB.row vL 27 kVal vs, OB.fam vs 31 kC xss] (fun p Lo => p = VP.tup [] ∧ Lo = [OB.box bh 93 (kPair kVal kVal) (vD, vL), OB.row vL 27 kVal vs, OB.fam vs 31 kC (xss.set i ((xss.getD i []).set k ((xss.getD i []).getD k 0 + q * y)))] ∧ True) := by
  refine Con.enter Try.func234 rfl rfl fun m w => ?_
  refine CW.seq ?_
  refine CW.region ?_
  refine WP.bx .n rfl fun b1 => ?_
  refine WP.nil ?_
  refine QE.next ?_
  refine CW.draw (Γ := [.fr (VP.ex (.pointer (some ⟨bh, 1, none⟩))), .fr (VP.ex vL), .fr ((kInt .i64).is (i : Int)), .fr (VP.pel vL (i * 1)), .fr (VP.ex (vs.getD i nilV)), .fr ((kInt .i64).is (k : Int)), .fr (VP.ex (.pointer (some ⟨bh, 1, none⟩))), .fr (VP.ex vL), .fr ((kInt .i64).is (i : Int)), .fr (VP.pel vL (i * 1)), .fr (VP.ex (vs.getD i nilV)), .fr ((kInt .i64).is (k : Int)), .fr (VP.pel (vs.getD i nilV) (k * 2)), .fr (kC.is ((xss.getD i []).getD k 0)), .fr (kZ.is q), .fr (kZ.is y), .fr (kC.is (q * y)), .fr (kC.is (((xss.getD i []).getD k 0) + (q * y))), .fr (VP.pel (vs.getD i nilV) (k * 2))]) (lates := [false, false, false, false, false, false, false, false, false, false, false, false, false, false, false, false, false, false, false]) (by kernel_rfl) (Chk.of rfl (by kernel_rfl) rfl) (fun _ _ _ _ _ h => h) (fun q_ x_ h_ => ?_) (fun σ1 => ?_)
  · match q_, h_ with
    | 0, h_ => cases h_; exact Ob.f rfl .n fun N => (O.fa rfl fld93_1 rfl)
    | 1, h_ => cases h_; exact Ob.f rfl .n fun N => (OpOk.le (O.ld (p := kVal.is vL) rfl (mem_app N (mem_at 1 rfl)) (Lens.snd (Lens.id _)) ty67 rfl) (val_ex _))
    | 2, h_ => cases h_; exact Ob.f rfl .n fun N => (O.ldP rfl ty3)
    | 3, h_ => cases h_; exact Ob.f rfl .n fun N => (O.ixR (k := kVal) (xs := vs) (n := (i : Int)) i rfl rfl (mem_app N (mem_at 2 rfl)) Try.underlying67 ty27 rfl (by omega))
    | 4, h_ => cases h_; exact Ob.f rfl .n fun N => (OpOk.le (O.ldR i rfl (mem_app N (mem_at 2 rfl)) (Lens.id _) rfl (y := (vs.getD i nilV)) (gd nilV (by omega)) ty27 rfl) (val_ex _))
    | 5, h_ => cases h_; exact Ob.f rfl .n fun N => (O.mv rfl)
    | 6, h_ => cases h_; exact Ob.f rfl .n fun N => (O.fa rfl fld93_1 rfl)
    | 7, h_ => cases h_; exact Ob.f rfl .n fun N => (OpOk.le (O.ld (p := kVal.is vL) rfl (mem_app N (mem_at 1 rfl)) (Lens.snd (Lens.id _)) ty67 rfl) (val_ex _))
    | 8, h_ => cases h_; exact Ob.f rfl .n fun N => (O.ldP rfl ty3)
    | 9, h_ => cases h_; exact Ob.f rfl .n fun N => (O.ixR (k := kVal) (xs := vs) (n := (i : Int)) i rfl rfl (mem_app N (mem_at 2 rfl)) Try.underlying67 ty27 rfl (by omega))
    | 10, h_ => cases h_; exact Ob.f rfl .n fun N => (OpOk.le (O.ldR i rfl (mem_app N (mem_at 2 rfl)) (Lens.id _) rfl (y := (vs.getD i nilV)) (gd nilV (by omega)) ty27 rfl) (val_ex _))
    | 11, h_ => cases h_; exact Ob.f rfl .n fun N => (O.mv rfl)
    | 12, h_ => cases h_; exact Ob.f rfl .n fun N => (O.ixF (e := 31) (k := kC) (xss := xss) (n := (k : Int)) i k rfl rfl (mem_app N (mem_at 3 rfl)) rfl (by omega) Try.underlying27 ty31 rfl (by omega))
    | 13, h_ => cases h_; exact Ob.f rfl .n fun N => (O.ldF (k := kC) (xss := xss) i k rfl (mem_app N (mem_at 3 rfl)) rfl (by omega) (Lens.id _) rfl (y := ((xss.getD i []).getD k 0)) (gd 0 (by omega)) ty31 rfl)
    | 14, h_ => cases h_; exact Ob.f rfl .n fun N => (O.ldP rfl ty31)
    | 15, h_ => cases h_; exact Ob.f rfl .n fun N => (O.ld rfl (mem_app N (mem_at 0 rfl)) (Lens.id _) ty31 rfl)
    | 16, h_ => cases h_; exact Ob.f rfl .n fun N => (O.fn fn76 (evs.c rfl (evs.c rfl evs.nil)) (c_zint_Mul q y))
    | 17, h_ => cases h_; exact Ob.f rfl .n fun N => (O.fn fn77 (evs.l rfl (kC_Z (by assumption)) (evs.l rfl (kC_Z (by assumption)) evs.nil)) (c_zint_Add ((xss.getD i []).getD k 0) (q * y)))
    | 18, h_ => cases h_; exact Ob.f rfl .n fun N => (O.ixF (e := 31) (k := kC) (xss := xss) (n := (k : Int)) i k rfl rfl (mem_app N (mem_at 3 rfl)) rfl (by omega) Try.underlying27 ty31 rfl (by omega))
    | n_ + 19, h_ => simp at h_
  refine WP.t .n (O.stF 3 i k rfl rfl rfl (by omega) (Lens.id _) rfl (y0 := ((xss.getD i []).getD k 0)) (gd 0 (by omega)) ty31 rfl (VP.le_refl _)) ?_
  refine WP.nil ?_
  exact QE.done (.inr rfl) rfl ResOk.nil (OImp.os (OS.skip (OS.keep (OS.keep (OS.keepLe (OB.fam_eq (by first | rfl | omega | assumption) (by first | rfl | omega | assumption)) OS.nil))))) ⟨rfl, rfl, trivial⟩

set_option maxRecDepth 20000 in
set_option maxHeartbeats 1000000 in
theorem c_gso_AddRow (G : Nat → Nat → Int) (n B : Nat) (h0 : 0 < n) (h12 : n ≤ 12) (hP : PosU G n) (hD : ∀ k, k ≤ n → Sz B (uD G k)) (hB : B ≤ 68719476736) (i j : Nat) (q : Int) (hj : j < i) (hi : i < n) (hs : SymG G) (hL : ∀ x k, x < n → k < x → Sz B (uE G k x k)) (hq : Sz B q) : Fn Try.prog 188 [(kPair (kSl kC) (kSl (kSl kC))).is (gDs G n, gLs G n), (kInt .i64).is (i : Int), (kInt .i64).is (j : Int), kZ.is q] (VP.tup [(kPair (kSl kC) (kSl (kSl kC))).is (gDs (rowI G i j q) n, gLs (rowI G i j q) n), (kInt .i64).is 0]) := by
  refine Con.enter Try.func188 rfl rfl fun m w => ?_
  have hLl : (gLs G n).length = n := gLs_len G n
  have hDl : (gDs G n).length = n + 1 := gDs_len G n
  refine CW.seq ?_
  refine CW.region ?_
  refine WP.bx .n rfl fun b1 => ?_
  refine WP.bx .n rfl fun b2 => ?_
  refine WP.bx .n rfl fun b3 => ?_
  refine WP.al .n z93_pr_sl_C_sl_sl_C_ fun b4 => ?_
  refine WP.s .n (O.asg rfl) ?_
  refine WP.nil ?_
  refine QE.next ?_
  refine CW.seq ?_
  refine CW.seq ?_
  refine CW.region ?_
  refine WP.s .n (O.ld (p := (kPair (kSl kC) (kSl (kSl kC))).is (gDs G n, gLs G n)) rfl (mem_at 3 rfl) (Lens.id _) ty93 rfl) ?_
  refine WP.s .n (O.fn fn229 (evs.c rfl evs.nil) (c_gso_good G n B (by first | assumption | exact gDs_Sm hD (by omega) | exact gLs_Sm hL (by omega) | (rw [gDs_len]; omega) | (rw [gLs_len]; omega)) (by first | assumption | exact gDs_Sm hD (by omega) | exact gLs_Sm hL (by omega) | (rw [gDs_len]; omega) | (rw [gLs_len]; omega)) (by first | assumption | exact gDs_Sm hD (by omega) | exact gLs_Sm hL (by omega) | (rw [gDs_len]; omega) | (rw [gLs_len]; omega)) (by first | assumption | exact gDs_Sm hD (by omega) | exact gLs_Sm hL (by omega) | (rw [gDs_len]; omega) | (rw [gLs_len]; omega)) (by first | assumption | exact gDs_Sm hD (by omega) | exact gLs_Sm hL (by omega) | (rw [gDs_len]; omega) | (rw [gLs_len]; omega)))) ?_
  refine WP.s .n (O.not (a := true) rfl) ?_
  refine WP.nil ?_
  refine QE.next ?_
  refine CW.condF rfl ?_
  refine CW.skip ?_
  refine QE.next ?_
  refine CW.seq ?_
  refine CW.seq ?_
  refine CW.region ?_
  refine WP.s .n (O.mv rfl) ?_
  refine WP.s .n (O.lt rfl rfl) ?_
  refine WP.s .n (O.mv rfl) ?_
  refine WP.splitD 19 rfl (fun h => absurd h (by omega)) (fun h_t19 => ?_)
  refine WP.s (.g rfl rfl) (O.mv rfl) ?_
  refine WP.s (.g rfl rfl) (O.ld rfl (mem_at 2 rfl) (Lens.id _) ty3 rfl) ?_
  refine WP.s (.g rfl rfl) (O.ge rfl rfl) ?_
  refine WP.s .n (O.pickF rfl rfl) ?_
  refine WP.s .n (O.mv rfl) ?_
  refine WP.splitD 24 rfl (fun h => absurd h (by omega)) (fun h_t24 => ?_)
  refine WP.s (.g rfl rfl) (O.ld rfl (mem_at 2 rfl) (Lens.id _) ty3 rfl) ?_
  refine WP.s (.g rfl rfl) (O.fa rfl fld93_1 rfl) ?_
  refine WP.s (.g rfl rfl) (O.ld (p := (kSl (kSl kC)).is (gLs G n)) rfl (mem_at 3 rfl) (Lens.snd (Lens.id _)) ty67 rfl) ?_
  refine WP.s (.g rfl rfl) (O.lenS rfl Try.underlying67) ?_
  refine WP.s (.g rfl rfl) (O.ge rfl rfl) ?_
  refine WP.s .n (O.pickF rfl rfl) ?_
  refine WP.nil ?_
  refine QE.next ?_
  refine CW.condD rfl (fun h => absurd h (by rw [gLs_len]; omega)) (fun h_t30 => ?_)
  refine CW.skip ?_
  refine QE.next ?_
  refine CW.seq ?_
  refine CW.region ?_
  refine WP.s .n (O.ld (p := (kPair (kSl kC) (kSl (kSl kC))).is (gDs G n, gLs G n)) rfl (mem_at 3 rfl) (Lens.id _) ty93 rfl) ?_
  refine WP.call (Li := []) (L := [OB.box b4 93 (kPair (kSl kC) (kSl (kSl kC))) ([], []), OB.box b3 31 kZ q, OB.box b2 3 (kInt .i64) (i : Int), OB.box b1 93 (kPair (kSl kC) (kSl (kSl kC))) (gDs G n, gLs G n)]) .n fn233 (evs.c rfl evs.nil) (c_gso_fresh (gDs G n) (gLs G n) (by first | assumption | exact gDs_Sm hD (by omega) | exact gLs_Sm hL (by omega) | (rw [gDs_len]; omega) | (rw [gLs_len]; omega)) (by first | assumption | exact gDs_Sm hD (by omega) | exact gLs_Sm hL (by omega) | (rw [gDs_len]; omega) | (rw [gLs_len]; omega)) (by first | assumption | exact gDs_Sm hD (by omega) | exact gLs_Sm hL (by omega) | (rw [gDs_len]; omega) | (rw [gLs_len]; omega)) (by first | assumption | exact gDs_Sm hD (by omega) | exact gLs_Sm hL (by omega) | (rw [gDs_len]; omega) | (rw [gLs_len]; omega))) fun p_ Lo_ hp_ => ?_
  obtain ⟨vD, vL, us, rfl, rfl, hx_t33⟩ := hp_
  refine WP.al .n z93_pr_val_val_ fun b5 => ?_
  refine WP.t .n (O.stW (l := (kPair kVal kVal)) (u := (vD, vL)) 0 rfl rfl rfl ty93 rfl (VP.le_refl _)) ?_
  refine WP.nil ?_
  refine QE.next ?_
  refine CW.seq ?_
  refine ST.freezeb 6 rfl (.keep (i := 0) rfl (.keep (i := 1) rfl (.keep (i := 2) rfl (.keep (i := 3) rfl (.keep (i := 4) rfl (.hit (i := 5) rfl (.keep (i := 7) rfl (.keep (i := 8) rfl (.keep (i := 9) rfl (.keep (i := 10) rfl (.keep (i := 13) rfl (.keep (i := 14) rfl (.keep (i := 15) rfl (.keep (i := 17) rfl (.keep (i := 18) rfl (.keep (i := 19) rfl (.keep (i := 20) rfl (.keep (i := 21) rfl (.keep (i := 22) rfl (.keep (i := 23) rfl (.keep (i := 24) rfl (.keep (i := 25) rfl (.keep (i := 26) rfl (.keep (i := 27) rfl (.keep (i := 28) rfl (.keep (i := 29) rfl (.keep (i := 30) rfl (.keep (i := 32) rfl (.keep (i := 33) rfl .nil))))))))))))))))))))))))))))) ?_
  refine ST.freezeb 5 rfl (.keep (i := 0) rfl (.keep (i := 1) rfl (.keep (i := 2) rfl (.keep (i := 3) rfl (.keep (i := 4) rfl (.keep (i := 5) rfl (.hit (i := 7) rfl (.keep (i := 8) rfl (.keep (i := 9) rfl (.keep (i := 10) rfl (.keep (i := 13) rfl (.keep (i := 14) rfl (.keep (i := 15) rfl (.keep (i := 17) rfl (.keep (i := 18) rfl (.keep (i := 19) rfl (.keep (i := 20) rfl (.keep (i := 21) rfl (.keep (i := 22) rfl (.keep (i := 23) rfl (.keep (i := 24) rfl (.keep (i := 25) rfl (.keep (i := 26) rfl (.keep (i := 27) rfl (.keep (i := 28) rfl (.keep (i := 29) rfl (.keep (i := 30) rfl (.keep (i := 32) rfl (.keep (i := 33) rfl .nil))))))))))))))))))))))))))))) ?_
  have hvl : us.length = n := by rw [hx_t33, gLs_len]
  refine ST.obtold 3 rfl (OB.fam_eq rfl (yss := (tri n (eF G))) (gLs_tri G n)) ?_
  refine CW.region ?_
  refine WP.s .n (O.mkf (evs.c rfl (evs.c rfl (evs.c rfl evs.nil)))) ?_
  refine WP.s .n (O.asg rfl) ?_
  refine WP.nil ?_
  refine QE.next ?_
  refine CW.seq ?_
  refine CW.region ?_
  refine WP.s .n (O.mv rfl) ?_
  refine WP.s .n (O.mv rfl) ?_
  refine WP.s .n (O.fa rfl fld93_0 rfl) ?_
  refine WP.s .n (O.ld (p := (kSl kC).is (gDs G n)) rfl (mem_at 5 rfl) (Lens.fst (Lens.id _)) ty27 rfl) ?_
  refine WP.s .n (O.mv rfl) ?_
  refine WP.s .n (O.add rfl rfl (c := ((j : Int) + 1)) (w64 (by omega))) ?_
  refine WP.s .n (O.ix ((((j : Int) + 1)).toNat) rfl rfl Try.underlying27 ty31 (by omega) (v := (uD G (j + 1))) (gDs_at (by omega))) ?_
  refine WP.s .n (O.ldP rfl ty31) ?_
  refine ST.oimp (OImp.ix [0, 2, 3, 1, 4, 5] (by decide) rfl) ?_
  refine WP.callc (Li := [OB.box b5 93 (kPair kVal kVal) (vD, vL), OB.row vL 27 kVal us, OB.fam us 31 kC (tri n (eF G))]) (L := [OB.row vD 31 kC (gDs G n), OB.box b4 93 (kPair (kSl kC) (kSl (kSl kC))) ([], []), OB.box b1 93 (kPair (kSl kC) (kSl (kSl kC))) (gDs G n, gLs G n)]) .n rfl fn234 (evs.c rfl (evs.l rfl (kC_Z (by first | exact (hD (j + 1) (by omega)).sm (by omega) | exact (hL j c (by omega) (by omega)).sm (by omega))) evs.nil)) (c_gso_AddRow1 vD vL b5 us (tri n (eF G)) i j q (uD G (j + 1)) (by omega) (by rw [tri_rlen hi]; omega) (by rw [tri_get hi hj]; exact (hL i j hi hj).sm (by omega)) ((hq.mul (hD (j + 1) (by omega))).sm (by omega))) fun p_ Lo_ hp_ => ?_
  obtain ⟨rfl, rfl, hx_t43⟩ := hp_
  refine WP.nil ?_
  refine QE.next ?_
  refine CW.seq ?_
  refine CW.seq ?_
  refine ST.obtold 2 rfl (OB.fam_eq rfl (yss := (tri n (addF G i j q 0))) (by rw [tri_get hi hj, tri_set _ hi]; show tri n (updI (eF G) i j (uE G j i j + q * uD G (j + 1))) = _; rw [addF_0])) ?_
  refine CW.region ?_
  refine WP.s .n (O.mv rfl) ?_
  refine WP.s .n (O.mv rfl) ?_
  refine WP.nil ?_
  refine QE.next ?_
  refine CW.block ?_
  refine CW.loop (fun (c : Nat) => c ≤ j) (fun (c : Nat) => [(2, (kInt .i64).is (j : Int)), (4, VP.ex (.pointer (some ⟨b1, 0, none⟩))), (8, VP.ex (.pointer (some ⟨b4, 0, none⟩))), (10, VP.ex (.pointer (some ⟨b5, 0, none⟩))), (11, VP.clo 234 [VP.ex (.pointer (some ⟨b5, 0, none⟩)), VP.pim (kInt .i64) (i : Int), VP.pim kZ q]), (44, (kInt .i64).is (j : Int)), (45, (kInt .i64).is (c : Int))]) (fun (c : Nat) => [OB.box b5 93 (kPair kVal kVal) (vD, vL), OB.row vL 27 kVal us, OB.fam us 31 kC (tri n (addF G i j q c)), OB.row vD 31 kC (gDs G n), OB.box b4 93 (kPair (kSl kC) (kSl (kSl kC))) ([], []), OB.box b1 93 (kPair (kSl kC) (kSl (kSl kC))) (gDs G n, gLs G n)]) (fun (c : Nat) => j - c) 0 (by omega) (Imp.cons rfl (Imp.cons rfl (Imp.cons rfl (Imp.cons rfl (Imp.cons rfl (Imp.cons rfl (Imp.consLe rfl (is_eq (y := (0 : Int)) (by first | rfl | omega | assumption)) Imp.nil))))))) (OImp.refl _) ?_
  intro c hc
  refine CW.seq ?_
  refine CW.region ?_
  refine WP.s .n (O.lt rfl rfl) ?_
  refine WP.nil ?_
  refine QE.next ?_
  refine CW.seq ?_
  refine CW.condD rfl (fun h_t46 => ?_) (fun h_t46 => ?_)
  · refine CW.skip ?_
    refine QE.next ?_
    refine CW.seq ?_
    refine CW.block ?_
    refine CW.seq ?_
    refine CW.region ?_
    refine WP.s .n (O.mv rfl) ?_
    refine WP.s .n (O.asg rfl) ?_
    refine WP.nil ?_
    refine QE.next ?_
    refine CW.region ?_
    refine WP.s .n (O.mv rfl) ?_
    refine WP.s .n (O.mv rfl) ?_
    refine WP.s .n (O.fa rfl fld93_1 rfl) ?_
    refine WP.s .n (O.ld (p := (kSl (kSl kC)).is (gLs G n)) rfl (mem_at 5 rfl) (Lens.snd (Lens.id _)) ty67 rfl) ?_
    refine WP.s .n (O.mv rfl) ?_
    refine WP.s .n (O.ix j rfl rfl Try.underlying67 ty27 rfl (v := ((gLs G n).getD j [])) (gd [] (by first | omega | (simp only [gRow_len, gDs_len, gLs_len]; omega) | (simp only [tri_len]; omega) | (rw [tri_rlen (by omega)]; omega)))) ?_
    refine WP.s .n (O.ldP rfl ty27) ?_
    refine WP.s .n (O.mv rfl) ?_
    refine WP.s .n (O.ix c rfl rfl Try.underlying27 ty31 rfl (v := (uE G c j c)) (gLs_at (by omega) (by omega))) ?_
    refine WP.s .n (O.ldP rfl ty31) ?_
    refine WP.callc (Li := [OB.box b5 93 (kPair kVal kVal) (vD, vL), OB.row vL 27 kVal us, OB.fam us 31 kC (tri n (addF G i j q c))]) (L := [OB.row vD 31 kC (gDs G n), OB.box b4 93 (kPair (kSl kC) (kSl (kSl kC))) ([], []), OB.box b1 93 (kPair (kSl kC) (kSl (kSl kC))) (gDs G n, gLs G n)]) .n rfl fn234 (evs.c rfl (evs.l rfl (kC_Z (by first | exact (hD (j + 1) (by omega)).sm (by omega) | exact (hL j c (by omega) (by omega)).sm (by omega))) evs.nil)) (c_gso_AddRow1 vD vL b5 us (tri n (addF G i j q c)) i c q (uE G c j c) (by omega) (by rw [tri_rlen hi]; omega) (by rw [tri_get hi (by omega), addF_at (by omega)]; exact (hL i c hi (by omega)).sm (by omega)) ((hq.mul (hL j c (by omega) (by omega))).sm (by omega))) fun p_ Lo_ hp_ => ?_
    obtain ⟨rfl, rfl, hx_t58⟩ := hp_
    refine WP.nil ?_
    refine QE.blkN ?_
    refine QE.next ?_
    refine CW.region ?_
    refine WP.s .n (O.add rfl rfl (c := ((c : Int) + 1)) (w64 (by omega))) ?_
    refine WP.s .n (O.mv rfl) ?_
    refine WP.nil ?_
    refine ST.obtold 2 rfl (OB.fam_eq rfl (yss := (tri n (addF G i j q (c + 1)))) (by rw [tri_get hi (by omega), addF_at (by omega), tri_set _ hi, addF_s (by omega)])) ?_
    exact QE.round (c + 1) (by omega) (by omega) (Imp.cons rfl (Imp.cons rfl (Imp.cons rfl (Imp.cons rfl (Imp.cons rfl (Imp.cons rfl (Imp.consLe rfl (is_eq (y := (((c + 1) : Nat) : Int)) (by first | rfl | omega | assumption)) Imp.nil))))))) (OImp.refl _)
  · refine CW.exit ?_
    refine QE.thenE ?_
    refine QE.thenE ?_
    refine QE.blkH ?_
    refine QE.next ?_
    refine CW.seq ?_
    refine ST.obtold 2 rfl (OB.fam_eq rfl (yss := (gLs (rowI G i j q) n)) (by rw [show c = j by omega]; exact addF_end hs hP hj hi)) ?_
    refine ST.obtold 3 rfl (OB.row_eq (ys := (gDs (rowI G i j q) n)) (gDs_row hs hP hj).symm) ?_
    refine ST.freezeIn (k2 := (kPair (kSl kC) kVal)) ((gDs (rowI G i j q) n), vL) 3 0 rfl rfl (fun m_ cs_ h_ c_ => fz_fst m_ cs_ h_ c_) (.keep (i := 2) rfl (.keep (i := 4) rfl (.keep (i := 8) rfl (.keep (i := 10) rfl (.keep (i := 11) rfl (.keep (i := 44) rfl (.keep (i := 45) rfl (.keep (i := 46) rfl .nil)))))))) ?_
    refine ST.freezeMIn (k2 := (kPair (kSl kC) (kSl (kSl kC)))) ((gDs (rowI G i j q) n), (gLs (rowI G i j q) n)) 2 1 0 rfl rfl rfl (fun m_ cs_ h_ c_ => fz_snd m_ cs_ h_ c_) (.keep (i := 2) rfl (.keep (i := 4) rfl (.keep (i := 8) rfl (.keep (i := 10) rfl (.keep (i := 11) rfl (.keep (i := 44) rfl (.keep (i := 45) rfl (.keep (i := 46) rfl .nil)))))))) ?_
    refine CW.region ?_
    refine WP.s .n (O.ld (p := (kPair (kSl kC) (kSl (kSl kC))).is ((gDs (rowI G i j q) n), (gLs (rowI G i j q) n))) rfl (mem_at 0 rfl) (Lens.id _) ty93 rfl) ?_
    refine WP.t .n (O.stW (l := (kPair (kSl kC) (kSl (kSl kC)))) (u := ((gDs (rowI G i j q) n), (gLs (rowI G i j q) n))) 1 rfl rfl rfl ty93 rfl (VP.le_refl _)) ?_
    refine WP.s .n (O.asg rfl) ?_
    refine WP.nil ?_
    refine QE.next ?_
    refine CW.ret ?_
    exact QE.done (.inl rfl) rfl (ResOk.cl rfl (mem_at 1 rfl) ty93 (is_eq (y := (gDs (rowI G i j q) n, gLs (rowI G i j q) n)) (by first | rfl | omega | assumption)) (ResOk.t rfl ResOk.nil)) (OImp.sub (List.nil_sublist _)) ⟨rfl, rfl⟩

set_option maxRecDepth 20000 in
set_option maxHeartbeats 1000000 in
theorem c_gso_Swap1 (B : Nat) (a b c x e : Int) (ha : Sz B a) (hb : Sz B b) (hc : Sz B c) (hx : Sz B x) (he : Sz B e) (h0 : e ≠ 0) (hB : B ≤ 68719476736) : Fn Try.prog 242 [kZ.is a, kZ.is b, kZ.is c, kZ.is x, VP.pim kC e] (kC.is ((a * b + c * x).fdiv e)) := by
  refine Con.enter Try.func242 rfl rfl fun m w => ?_
  refine CW.seq ?_
  refine CW.region ?_
  refine WP.bx .n rfl fun b1 => ?_
  refine WP.bx .n rfl fun b2 => ?_
  refine WP.bx .n rfl fun b3 => ?_
  refine WP.bx .n rfl fun b4 => ?_
  refine WP.al .n z31_C fun b5 => ?_
  refine WP.nil ?_
  refine QE.next ?_
  refine CW.seq ?_
  refine CW.draw (Γ := [.fr (kZ.is a), .fr (kZ.is b), .fr (kC.is (a * b)), .fr (kZ.is c), .fr (kZ.is x), .fr (kC.is (c * x)), .fr (kC.is ((a * b) + (c * x))), .fr (kC.is e), .fr (VP.tup [kC.is (((a * b) + (c * x)).fdiv e), kC.is (if e = 0 then 0 else ((a * b) + (c * x)).fmod e), (kInt .i64).is (if e = 0 then 11 else 0)]), .fr (VP.tup [kC.is (((a * b) + (c * x)).fdiv e), kC.is (if e = 0 then 0 else ((a * b) + (c * x)).fmod e), (kInt .i64).is (if e = 0 then 11 else 0)]), .fr (kC.is (((a * b) + (c * x)).fdiv e)), .lt (kC.is (if e = 0 then 0 else ((a * b) + (c * x)).fmod e)), .lt ((kInt .i64).is (if e = 0 then 11 else 0)), .al (fun b => OB.box b 31 kC 0), .al (fun b => OB.box b 31 kC 0)]) (lates := [false, false, false, false, false, false, false, false, false, false, false, true, true, false, false]) (by kernel_rfl) (Chk.of rfl (by kernel_rfl) rfl) (fun _ _ _ _ _ h => h) (fun q_ x_ h_ => ?_) (fun σ1 => ?_)
  · match q_, h_ with
    | 0, h_ => cases h_; exact Ob.f rfl .n fun N => (O.ld rfl (mem_app N (mem_at 4 rfl)) (Lens.id _) ty31 rfl)
    | 1, h_ => cases h_; exact Ob.f rfl .n fun N => (O.ld rfl (mem_app N (mem_at 3 rfl)) (Lens.id _) ty31 rfl)
    | 2, h_ => cases h_; exact Ob.f rfl .n fun N => (O.fn fn76 (evs.c rfl (evs.c rfl evs.nil)) (c_zint_Mul a b))
    | 3, h_ => cases h_; exact Ob.f rfl .n fun N => (O.ld rfl (mem_app N (mem_at 2 rfl)) (Lens.id _) ty31 rfl)
    | 4, h_ => cases h_; exact Ob.f rfl .n fun N => (O.ld rfl (mem_app N (mem_at 1 rfl)) (Lens.id _) ty31 rfl)
    | 5, h_ => cases h_; exact Ob.f rfl .n fun N => (O.fn fn76 (evs.c rfl (evs.c rfl evs.nil)) (c_zint_Mul c x))
    | 6, h_ => cases h_; exact Ob.f rfl .n fun N => (O.fn fn77 (evs.l rfl (kC_Z (by first | exact ha.sm (by omega) | exact hb.sm (by omega) | exact hc.sm (by omega) | exact hx.sm (by omega) | exact he.sm (by omega) | exact (ha.mul hb).sm (by omega) | exact (hc.mul hx).sm (by omega) | exact (Sz.add1 (ha.mul hb) (hc.mul hx)).sm (by omega))) (evs.l rfl (kC_Z (by first | exact ha.sm (by omega) | exact hb.sm (by omega) | exact hc.sm (by omega) | exact hx.sm (by omega) | exact he.sm (by omega) | exact (ha.mul hb).sm (by omega) | exact (hc.mul hx).sm (by omega) | exact (Sz.add1 (ha.mul hb) (hc.mul hx)).sm (by omega))) evs.nil)) (c_zint_Add (a * b) (c * x)))
    | 7, h_ => cases h_; exact Ob.f rfl .n fun N => (O.ldP rfl ty31)
    | 8, h_ => cases h_; exact Ob.f rfl .n fun N => (O.fn fn105 (evs.l rfl (kC_Z (by first | exact ha.sm (by omega) | exact hb.sm (by omega) | exact hc.sm (by omega) | exact hx.sm (by omega) | exact he.sm (by omega) | exact (ha.mul hb).sm (by omega) | exact (hc.mul hx).sm (by omega) | exact (Sz.add1 (ha.mul hb) (hc.mul hx)).sm (by omega))) (evs.l rfl (kC_Z (by first | exact ha.sm (by omega) | exact hb.sm (by omega) | exact hc.sm (by omega) | exact hx.sm (by omega) | exact he.sm (by omega) | exact (ha.mul hb).sm (by omega) | exact (hc.mul hx).sm (by omega) | exact (Sz.add1 (ha.mul hb) (hc.mul hx)).sm (by omega))) evs.nil)) (c_zint_Floor ((a * b) + (c * x)) e))
    | 9, h_ => cases h_; exact Ob.f rfl .n fun N => (O.mv rfl)
    | 10, h_ => cases h_; exact Ob.f rfl .n fun N => (O.ext rfl rfl)
    | 11, h_ => cases h_; exact Ob.l rfl .n (OV.ext rfl rfl)
    | 12, h_ => cases h_; exact Ob.l rfl .n (OV.ext rfl rfl)
    | 13, h_ => cases h_; exact Ob.a rfl z31_C
    | 14, h_ => cases h_; exact Ob.a rfl z31_C
    | n_ + 15, h_ => simp at h_
  refine WP.t .n (O.stW (l := kC) (u := ((a * b) + (c * x)).fdiv e) 0 rfl rfl rfl ty31 rfl (VP.le_refl _)) ?_
  refine WP.t .n (O.stW (l := kC) (u := if e = 0 then 0 else ((a * b) + (c * x)).fmod e) 1 rfl rfl rfl ty31 rfl (VP.le_refl _)) ?_
  refine WP.s .n (O.asg rfl) ?_
  refine WP.nil ?_
  refine QE.next ?_
  refine CW.seq ?_
  refine CW.region ?_
  refine WP.s .n (O.ld rfl (mem_at 0 rfl) (Lens.id _) ty31 rfl) ?_
  refine WP.t .n (O.stW (l := kC) (u := ((a * b) + (c * x)).fdiv e) 2 rfl rfl rfl ty31 rfl (VP.le_refl _)) ?_
  refine WP.nil ?_
  refine QE.next ?_
  refine CW.ret ?_
  exact QE.done (.inl rfl) rfl (ResOk.cl rfl (mem_at 2 rfl) ty31 (is_eq (y := (a * b + c * x).fdiv e) (by first | rfl | omega | assumption)) ResOk.nil) (OImp.sub (List.nil_sublist _)) ⟨rfl, rfl⟩

set_option maxRecDepth 20000 in
set_option maxHeartbeats 1000000 in
theorem c_gso_Swap (G : Nat → Nat → Int) (n B : Nat) (h0 : 0 < n) (h12 : n ≤ 12) (hP : PosU G n) (hD : ∀ k, k ≤ n → Sz B (uD G k)) (hB : B ≤ 68719476736) (p : Nat) (hp1 : p + 1 < n) (hs : SymG G) (hL : ∀ x k, x < n → k < x → Sz B (uE G k x k)) : Fn Try.prog 192 [(kPair (kSl kC) (kSl (kSl kC))).is (gDs G n, gLs G n), (kInt .i64).is ((p : Int) + 1)] (VP.tup [(kPair (kSl kC) (kSl (kSl kC))).is (gDs (swpI G p) n, gLs (swpI G p) n), (kInt .i64).is 0]) := by
  refine Con.enter Try.func192 rfl rfl fun m w => ?_
  have hLl : (gLs G n).length = n := gLs_len G n
  have hDl : (gDs G n).length = n + 1 := gDs_len G n
  have hP2 := swpI_pos hs hP hp1
  have hl0 := hL (p + 1) p (by omega) (by omega)
  have he0 := uD_ne hP (show p + 1 ≤ n by omega)
  refine CW.seq ?_
  refine CW.region ?_
  refine WP.bx .n rfl fun b1 => ?_
  refine WP.al .n z93_pr_sl_C_sl_sl_C_ fun b2 => ?_
  refine WP.s .n (O.asg rfl) ?_
  refine WP.nil ?_
  refine QE.next ?_
  refine CW.seq ?_
  refine CW.seq ?_
  refine CW.region ?_
  refine WP.s .n (O.ld (p := (kPair (kSl kC) (kSl (kSl kC))).is (gDs G n, gLs G n)) rfl (mem_at 1 rfl) (Lens.id _) ty93 rfl) ?_
  refine WP.s .n (O.fn fn229 (evs.c rfl evs.nil) (c_gso_good G n B (by first | assumption | exact gDs_Sm hD (by omega) | exact gLs_Sm hL (by omega) | (rw [gDs_len]; omega) | (rw [gLs_len]; omega) | exact hD _ (by omega)) (by first | assumption | exact gDs_Sm hD (by omega) | exact gLs_Sm hL (by omega) | (rw [gDs_len]; omega) | (rw [gLs_len]; omega) | exact hD _ (by omega)) (by first | assumption | exact gDs_Sm hD (by omega) | exact gLs_Sm hL (by omega) | (rw [gDs_len]; omega) | (rw [gLs_len]; omega) | exact hD _ (by omega)) (by first | assumption | exact gDs_Sm hD (by omega) | exact gLs_Sm hL (by omega) | (rw [gDs_len]; omega) | (rw [gLs_len]; omega) | exact hD _ (by omega)) (by first | assumption | exact gDs_Sm hD (by omega) | exact gLs_Sm hL (by omega) | (rw [gDs_len]; omega) | (rw [gLs_len]; omega) | exact hD _ (by omega)))) ?_
  refine WP.s .n (O.not (a := true) rfl) ?_
  refine WP.nil ?_
  refine QE.next ?_
  refine CW.condF rfl ?_
  refine CW.skip ?_
  refine QE.next ?_
  refine CW.seq ?_
  refine CW.seq ?_
  refine CW.region ?_
  refine WP.s .n (O.mv rfl) ?_
  refine WP.s .n (O.lt rfl rfl) ?_
  refine WP.s .n (O.mv rfl) ?_
  refine WP.splitD 22 rfl (fun h => absurd h (by omega)) (fun h_t22 => ?_)
  refine WP.s (.g rfl rfl) (O.mv rfl) ?_
  refine WP.s (.g rfl rfl) (O.fa rfl fld93_1 rfl) ?_
  refine WP.s (.g rfl rfl) (O.ld (p := (kSl (kSl kC)).is (gLs G n)) rfl (mem_at 1 rfl) (Lens.snd (Lens.id _)) ty67 rfl) ?_
  refine WP.s (.g rfl rfl) (O.lenS rfl Try.underlying67) ?_
  refine WP.s (.g rfl rfl) (O.ge rfl rfl) ?_
  refine WP.s .n (O.pickF rfl rfl) ?_
  refine WP.nil ?_
  refine QE.next ?_
  refine CW.condD rfl (fun h => absurd h (by rw [gLs_len]; omega)) (fun h_t28 => ?_)
  refine CW.skip ?_
  refine QE.next ?_
  refine CW.seq ?_
  refine CW.region ?_
  refine WP.s .n (O.ld (p := (kPair (kSl kC) (kSl (kSl kC))).is (gDs G n, gLs G n)) rfl (mem_at 1 rfl) (Lens.id _) ty93 rfl) ?_
  refine WP.call (Li := []) (L := [OB.box b2 93 (kPair (kSl kC) (kSl (kSl kC))) ([], []), OB.box b1 93 (kPair (kSl kC) (kSl (kSl kC))) (gDs G n, gLs G n)]) .n fn233 (evs.c rfl evs.nil) (c_gso_fresh (gDs G n) (gLs G n) (by first | assumption | exact gDs_Sm hD (by omega) | exact gLs_Sm hL (by omega) | (rw [gDs_len]; omega) | (rw [gLs_len]; omega) | exact hD _ (by omega)) (by first | assumption | exact gDs_Sm hD (by omega) | exact gLs_Sm hL (by omega) | (rw [gDs_len]; omega) | (rw [gLs_len]; omega) | exact hD _ (by omega)) (by first | assumption | exact gDs_Sm hD (by omega) | exact gLs_Sm hL (by omega) | (rw [gDs_len]; omega) | (rw [gLs_len]; omega) | exact hD _ (by omega)) (by first | assumption | exact gDs_Sm hD (by omega) | exact gLs_Sm hL (by omega) | (rw [gDs_len]; omega) | (rw [gLs_len]; omega) | exact hD _ (by omega))) fun p_ Lo_ hp_ => ?_
  obtain ⟨vD, vL, us, rfl, rfl, hx_t31⟩ := hp_
  refine WP.al .n z93_pr_val_val_ fun b3 => ?_
  refine WP.t .n (O.stW (l := (kPair kVal kVal)) (u := (vD, vL)) 0 rfl rfl rfl ty93 rfl (VP.le_refl _)) ?_
  refine WP.nil ?_
  refine QE.next ?_
  refine CW.seq ?_
  have hvl : us.length = n := by rw [hx_t31, gLs_len]
  refine ST.obtold 3 rfl (OB.fam_eq rfl (yss := (tri n (eF G))) (gLs_tri G n)) ?_
  refine CW.drawS (Γ := [.fr (VP.ex (.pointer (some ⟨b1, 0, none⟩))), .fr ((kSl kC).is (gDs G n)), .fr ((kInt .i64).is ((p : Int) + 1)), .fr ((kInt .i64).is (((p : Int) + 1) - 1)), .fr (VP.pim kC (uD G p)), .fr (kC.is (uD G p)), .fr (VP.ex (.pointer (some ⟨b1, 0, none⟩))), .fr ((kSl kC).is (gDs G n)), .fr ((kInt .i64).is ((p : Int) + 1)), .fr (VP.pim kC (uD G (p + 1))), .fr (kC.is (uD G (p + 1))), .fr (VP.ex (.pointer (some ⟨b1, 0, none⟩))), .fr ((kSl kC).is (gDs G n)), .fr ((kInt .i64).is ((p : Int) + 1)), .fr ((kInt .i64).is (((p : Int) + 1) + 1)), .fr (VP.pim kC (uD G (p + 2))), .fr (kC.is (uD G (p + 2))), .fr (VP.ex (.pointer (some ⟨b1, 1, none⟩))), .fr ((kSl (kSl kC)).is (gLs G n)), .fr ((kInt .i64).is ((p : Int) + 1)), .fr (VP.pim (kSl kC) ((gLs G n).getD (p + 1) [])), .fr ((kSl kC).is ((gLs G n).getD (p + 1) [])), .fr ((kInt .i64).is ((p : Int) + 1)), .fr ((kInt .i64).is (((p : Int) + 1) - 1)), .fr (VP.pim kC (uE G p (p + 1) p)), .fr (kC.is (uE G p (p + 1) p)), .al (fun b => OB.box b 31 kC 0) (fun b => OB.box b 31 kC (uD G p)) 30, .al (fun b => OB.box b 31 kC 0) (fun b => OB.box b 31 kC (uD G (p + 1))) 31, .al (fun b => OB.box b 31 kC 0) (fun b => OB.box b 31 kC (uD G (p + 2))) 32, .al (fun b => OB.box b 31 kC 0) (fun b => OB.box b 31 kC (uE G p (p + 1) p)) 33, .st 26, .st 27, .st 28, .st 29]) (by kernel_rfl) (ChkS.of (sh := [(0, 0), (0, 0), (0, 0), (0, 0), (0, 0), (0, 0), (0, 0), (0, 0), (0, 0), (0, 0), (0, 0), (0, 0), (0, 0), (0, 0), (0, 0), (0, 0), (0, 0), (0, 0), (0, 0), (0, 0), (0, 0), (0, 0), (0, 0), (0, 0), (0, 0), (0, 0), (1, 30), (1, 31), (1, 32), (1, 33), (2, 26), (2, 27), (2, 28), (2, 29)]) rfl (by kernel_rfl) rfl) (fun q_ x_ h_ => ?_) (fun σ1 => ?_)
  · match q_, h_ with
    | 0, h_ => cases h_; exact ObS.f rfl (fun σ1 => .n) (fun σ1 N => (O.fa rfl fld93_0 rfl))
    | 1, h_ => cases h_; exact ObS.f rfl (fun σ1 => .n) (fun σ1 N => (O.ld (p := (kSl kC).is (gDs G n)) rfl (mem_app N (mem_at 5 rfl)) (Lens.fst (Lens.id _)) ty27 rfl))
    | 2, h_ => cases h_; exact ObS.f rfl (fun σ1 => .n) (fun σ1 N => (O.mv rfl))
    | 3, h_ => cases h_; exact ObS.f rfl (fun σ1 => .n) (fun σ1 N => (O.sub rfl rfl (c := (((p : Int) + 1) - 1)) (w64 (by omega))))
    | 4, h_ => cases h_; exact ObS.f rfl (fun σ1 => .n) (fun σ1 N => (O.ix p rfl rfl Try.underlying27 ty31 (by omega) (v := (uD G p)) (gDs_at (by omega))))
    | 5, h_ => cases h_; exact ObS.f rfl (fun σ1 => .n) (fun σ1 N => (O.ldP rfl ty31))
    | 6, h_ => cases h_; exact ObS.f rfl (fun σ1 => .n) (fun σ1 N => (O.fa rfl fld93_0 rfl))
    | 7, h_ => cases h_; exact ObS.f rfl (fun σ1 => .n) (fun σ1 N => (O.ld (p := (kSl kC).is (gDs G n)) rfl (mem_app N (mem_at 5 rfl)) (Lens.fst (Lens.id _)) ty27 rfl))
    | 8, h_ => cases h_; exact ObS.f rfl (fun σ1 => .n) (fun σ1 N => (O.mv rfl))
    | 9, h_ => cases h_; exact ObS.f rfl (fun σ1 => .n) (fun σ1 N => (O.ix (p + 1) rfl rfl Try.underlying27 ty31 (by omega) (v := (uD G (p + 1))) (gDs_at (by omega))))
    | 10, h_ => cases h_; exact ObS.f rfl (fun σ1 => .n) (fun σ1 N => (O.ldP rfl ty31))
    | 11, h_ => cases h_; exact ObS.f rfl (fun σ1 => .n) (fun σ1 N => (O.fa rfl fld93_0 rfl))
    | 12, h_ => cases h_; exact ObS.f rfl (fun σ1 => .n) (fun σ1 N => (O.ld (p := (kSl kC).is (gDs G n)) rfl (mem_app N (mem_at 5 rfl)) (Lens.fst (Lens.id _)) ty27 rfl))
    | 13, h_ => cases h_; exact ObS.f rfl (fun σ1 => .n) (fun σ1 N => (O.mv rfl))
    | 14, h_ => cases h_; exact ObS.f rfl (fun σ1 => .n) (fun σ1 N => (O.add rfl rfl (c := (((p : Int) + 1) + 1)) (w64 (by omega))))
    | 15, h_ => cases h_; exact ObS.f rfl (fun σ1 => .n) (fun σ1 N => (O.ix (p + 2) rfl rfl Try.underlying27 ty31 (by omega) (v := (uD G (p + 2))) (gDs_at (by omega))))
    | 16, h_ => cases h_; exact ObS.f rfl (fun σ1 => .n) (fun σ1 N => (O.ldP rfl ty31))
    | 17, h_ => cases h_; exact ObS.f rfl (fun σ1 => .n) (fun σ1 N => (O.fa rfl fld93_1 rfl))
    | 18, h_ => cases h_; exact ObS.f rfl (fun σ1 => .n) (fun σ1 N => (O.ld (p := (kSl (kSl kC)).is (gLs G n)) rfl (mem_app N (mem_at 5 rfl)) (Lens.snd (Lens.id _)) ty67 rfl))
    | 19, h_ => cases h_; exact ObS.f rfl (fun σ1 => .n) (fun σ1 N => (O.mv rfl))
    | 20, h_ => cases h_; exact ObS.f rfl (fun σ1 => .n) (fun σ1 N => (O.ix (p + 1) rfl rfl Try.underlying67 ty27 (by omega) (v := ((gLs G n).getD (p + 1) [])) (gd [] (by first | omega | (simp only [gRow_len, gDs_len, gLs_len, List.length_set]; omega) | (simp only [tri_len]; omega) | (rw [tri_rlen (by omega)]; omega) | (rw [tri_set _ (by omega), tri_rlen (by omega)]; omega)))))
    | 21, h_ => cases h_; exact ObS.f rfl (fun σ1 => .n) (fun σ1 N => (O.ldP rfl ty27))
    | 22, h_ => cases h_; exact ObS.f rfl (fun σ1 => .n) (fun σ1 N => (O.mv rfl))
    | 23, h_ => cases h_; exact ObS.f rfl (fun σ1 => .n) (fun σ1 N => (O.sub rfl rfl (c := (((p : Int) + 1) - 1)) (w64 (by omega))))
    | 24, h_ => cases h_; exact ObS.f rfl (fun σ1 => .n) (fun σ1 N => (O.ix p rfl rfl Try.underlying27 ty31 (by omega) (v := (uE G p (p + 1) p)) (gLs_at (by omega) (by omega))))
    | 25, h_ => cases h_; exact ObS.f rfl (fun σ1 => .n) (fun σ1 N => (O.ldP rfl ty31))
    | 26, h_ => cases h_; exact ObS.a rfl z31_C
    | 27, h_ => cases h_; exact ObS.a rfl z31_C
    | 28, h_ => cases h_; exact ObS.a rfl z31_C
    | 29, h_ => cases h_; exact ObS.a rfl z31_C
    | 30, h_ => cases h_; exact ObS.s rfl rfl (fun σ1 => .n) (fun σ1 N => (O.stW (l := kC) (u := (uD G p)) 0 rfl rfl rfl ty31 rfl (VP.le_refl _)))
    | 31, h_ => cases h_; exact ObS.s rfl rfl (fun σ1 => .n) (fun σ1 N => (O.stW (l := kC) (u := (uD G (p + 1))) 0 rfl rfl rfl ty31 rfl (VP.le_refl _)))
    | 32, h_ => cases h_; exact ObS.s rfl rfl (fun σ1 => .n) (fun σ1 N => (O.stW (l := kC) (u := (uD G (p + 2))) 0 rfl rfl rfl ty31 rfl (VP.le_refl _)))
    | 33, h_ => cases h_; exact ObS.s rfl rfl (fun σ1 => .n) (fun σ1 N => (O.stW (l := kC) (u := (uE G p (p + 1) p)) 0 rfl rfl rfl ty31 rfl (VP.le_refl _)))
    | n_ + 34, h_ => simp at h_
  refine QE.next ?_
  refine CW.seq ?_
  refine ST.freezeb 1 rfl (.keep (i := 0) rfl (.keep (i := 1) rfl (.keep (i := 2) rfl (.keep (i := 4) rfl (.keep (i := 5) rfl (.keep (i := 6) rfl (.keep (i := 7) rfl (.hit (i := 8) rfl (.keep (i := 9) rfl (.keep (i := 10) rfl (.keep (i := 16) rfl (.keep (i := 17) rfl (.keep (i := 18) rfl (.keep (i := 20) rfl (.keep (i := 21) rfl (.keep (i := 22) rfl (.keep (i := 23) rfl (.keep (i := 24) rfl (.keep (i := 25) rfl (.keep (i := 26) rfl (.keep (i := 27) rfl (.keep (i := 28) rfl (.keep (i := 30) rfl (.keep (i := 31) rfl (.keep (i := 32) rfl (.keep (i := 33) rfl (.keep (i := 34) rfl (.keep (i := 35) rfl (.keep (i := 36) rfl (.keep (i := 37) rfl (.keep (i := 38) rfl (.keep (i := 39) rfl (.keep (i := 40) rfl (.keep (i := 41) rfl (.keep (i := 42) rfl (.keep (i := 43) rfl (.keep (i := 44) rfl (.keep (i := 45) rfl (.keep (i := 46) rfl (.keep (i := 47) rfl (.keep (i := 48) rfl (.keep (i := 49) rfl (.keep (i := 50) rfl (.keep (i := 51) rfl (.keep (i := 52) rfl (.keep (i := 53) rfl (.keep (i := 54) rfl (.keep (i := 55) rfl (.keep (i := 56) rfl (.keep (i := 57) rfl .nil)))))))))))))))))))))))))))))))))))))))))))))))))) ?_
  refine CW.region ?_
  refine WP.s .n (O.mkf (evs.c rfl evs.nil)) ?_
  refine WP.s .n (O.asg rfl) ?_
  refine WP.nil ?_
  refine QE.next ?_
  refine CW.seq ?_
  refine CW.draw (Γ := [.fr (VP.ex (.pointer (some ⟨b3, 0, none⟩))), .fr (VP.ex vD), .fr ((kInt .i64).is ((p : Int) + 1)), .fr (VP.clo 242 [VP.pim kC (uD G (p + 1))]), .fr (kC.is (uD G p)), .fr (kC.is (uD G (p + 2))), .fr (kC.is (uE G p (p + 1) p)), .fr (kC.is (uE G p (p + 1) p)), .fr (kC.is (((uD G p) * (uD G (p + 2)) + (uE G p (p + 1) p) * (uE G p (p + 1) p)).fdiv (uD G (p + 1)))), .fr (VP.pel vD ((p + 1) * 2))]) (lates := [false, false, false, false, false, false, false, false, false, false]) (by kernel_rfl) (Chk.of rfl (by kernel_rfl) rfl) (fun _ _ _ _ _ h => h) (fun q_ x_ h_ => ?_) (fun σ2 => ?_)
  · match q_, h_ with
    | 0, h_ => cases h_; exact Ob.f rfl .n fun N => (O.fa rfl fld93_0 rfl)
    | 1, h_ => cases h_; exact Ob.f rfl .n fun N => (OpOk.le (O.ld (p := kVal.is vD) rfl (mem_app N (mem_at 3 rfl)) (Lens.fst (Lens.id _)) ty27 rfl) (val_ex _))
    | 2, h_ => cases h_; exact Ob.f rfl .n fun N => (O.mv rfl)
    | 3, h_ => cases h_; exact Ob.f rfl .n fun N => (O.mv rfl)
    | 4, h_ => cases h_; exact Ob.f rfl .n fun N => (O.ld rfl (mem_app N (mem_at 0 rfl)) (Lens.id _) ty31 rfl)
    | 5, h_ => cases h_; exact Ob.f rfl .n fun N => (O.ld rfl (mem_app N (mem_at 1 rfl)) (Lens.id _) ty31 rfl)
    | 6, h_ => cases h_; exact Ob.f rfl .n fun N => (O.ld rfl (mem_app N (mem_at 2 rfl)) (Lens.id _) ty31 rfl)
    | 7, h_ => cases h_; exact Ob.f rfl .n fun N => (O.ld rfl (mem_app N (mem_at 2 rfl)) (Lens.id _) ty31 rfl)
    | 8, h_ => cases h_; exact Ob.f rfl .n fun N => (O.clo rfl fn242 (evs.l rfl (kC_Z (by first | exact (hD p (by omega)).sm (by omega) | exact (hD (p + 1) (by omega)).sm (by omega) | exact (hD (p + 2) (by omega)).sm (by omega) | exact hl0.sm (by omega) | exact hl0.neg.sm (by omega) | exact (hL c p (by omega) (by omega)).sm (by omega) | exact (hL c (p + 1) (by omega) (by omega)).sm (by omega) | exact hD2.sm (by omega))) (evs.l rfl (kC_Z (by first | exact (hD p (by omega)).sm (by omega) | exact (hD (p + 1) (by omega)).sm (by omega) | exact (hD (p + 2) (by omega)).sm (by omega) | exact hl0.sm (by omega) | exact hl0.neg.sm (by omega) | exact (hL c p (by omega) (by omega)).sm (by omega) | exact (hL c (p + 1) (by omega) (by omega)).sm (by omega) | exact hD2.sm (by omega))) (evs.l rfl (kC_Z (by first | exact (hD p (by omega)).sm (by omega) | exact (hD (p + 1) (by omega)).sm (by omega) | exact (hD (p + 2) (by omega)).sm (by omega) | exact hl0.sm (by omega) | exact hl0.neg.sm (by omega) | exact (hL c p (by omega) (by omega)).sm (by omega) | exact (hL c (p + 1) (by omega) (by omega)).sm (by omega) | exact hD2.sm (by omega))) (evs.l rfl (kC_Z (by first | exact (hD p (by omega)).sm (by omega) | exact (hD (p + 1) (by omega)).sm (by omega) | exact (hD (p + 2) (by omega)).sm (by omega) | exact hl0.sm (by omega) | exact hl0.neg.sm (by omega) | exact (hL c p (by omega) (by omega)).sm (by omega) | exact (hL c (p + 1) (by omega) (by omega)).sm (by omega) | exact hD2.sm (by omega))) evs.nil)))) (c_gso_Swap1 B (uD G p) (uD G (p + 2)) (uE G p (p + 1) p) (uE G p (p + 1) p) (uD G (p + 1)) (by first | assumption | exact gDs_Sm hD (by omega) | exact gLs_Sm hL (by omega) | (rw [gDs_len]; omega) | (rw [gLs_len]; omega) | exact hD _ (by omega)) (by first | assumption | exact gDs_Sm hD (by omega) | exact gLs_Sm hL (by omega) | (rw [gDs_len]; omega) | (rw [gLs_len]; omega) | exact hD _ (by omega)) hl0 hl0 (by first | assumption | exact gDs_Sm hD (by omega) | exact gLs_Sm hL (by omega) | (rw [gDs_len]; omega) | (rw [gLs_len]; omega) | exact hD _ (by omega)) he0 (by first | assumption | exact gDs_Sm hD (by omega) | exact gLs_Sm hL (by omega) | (rw [gDs_len]; omega) | (rw [gLs_len]; omega) | exact hD _ (by omega))))
    | 9, h_ => cases h_; exact Ob.f rfl .n fun N => (O.ixR (k := kC) (xs := gDs G n) (n := ((p : Int) + 1)) (p + 1) rfl rfl (mem_app N (mem_at 4 rfl)) Try.underlying27 ty31 (by omega) (by first | omega | (simp only [gRow_len, gDs_len, gLs_len, List.length_set]; omega) | (simp only [tri_len]; omega) | (rw [tri_rlen (by omega)]; omega) | (rw [tri_set _ (by omega), tri_rlen (by omega)]; omega)))
    | n_ + 10, h_ => simp at h_
  refine WP.t .n (O.stR 4 (p + 1) rfl rfl (Lens.id _) rfl (y0 := ((gDs G n).getD (p + 1) 0)) (gd 0 (by first | omega | (simp only [gRow_len, gDs_len, gLs_len, List.length_set]; omega) | (simp only [tri_len]; omega) | (rw [tri_rlen (by omega)]; omega) | (rw [tri_set _ (by omega), tri_rlen (by omega)]; omega))) ty31 rfl (VP.le_refl _)) ?_
  refine WP.nil ?_
  refine QE.next ?_
  refine CW.seq ?_
  refine CW.seq ?_
  refine ST.obtold 4 rfl (OB.row_eq (ys := (gDs (swpI G p) n)) (gDs_swp hs hP hp1)) ?_
  have hD2 : Sz (B + B + 1) (uD (swpI G p) (p + 1)) := by rw [← swD_eq hs hP hp1]; exact Sz.fdiv (Sz.add1 ((hD p (by omega)).mul (hD (p + 2) (by omega))) (hl0.mul hl0)) (hP.uD (by omega))
  refine CW.region ?_
  refine WP.s .n (O.fa rfl fld93_0 rfl) ?_
  refine WP.s .n (OpOk.le (O.ld (p := kVal.is vD) rfl (mem_at 3 rfl) (Lens.fst (Lens.id _)) ty27 rfl) (val_ex _)) ?_
  refine WP.s .n (O.mv rfl) ?_
  refine WP.s .n (O.ixR (k := kC) (xs := (gDs (swpI G p) n)) (n := ((p : Int) + 1)) (p + 1) rfl rfl (mem_at 4 rfl) Try.underlying27 ty31 (by omega) (by first | omega | (simp only [gRow_len, gDs_len, gLs_len, List.length_set]; omega) | (simp only [tri_len]; omega) | (rw [tri_rlen (by omega)]; omega) | (rw [tri_set _ (by omega), tri_rlen (by omega)]; omega))) ?_
  refine WP.s .n (O.ldR (k := kC) (xs := (gDs (swpI G p) n)) (p + 1) rfl (mem_at 4 rfl) (Lens.id _) (ho := rfl) (y := (uD (swpI G p) (p + 1))) (gDs_at (by omega)) ty31 rfl) ?_
  refine WP.s .n (O.fn fn80 (evs.l rfl (kC_Z (by first | exact (hD p (by omega)).sm (by omega) | exact (hD (p + 1) (by omega)).sm (by omega) | exact (hD (p + 2) (by omega)).sm (by omega) | exact hl0.sm (by omega) | exact hl0.neg.sm (by omega) | exact (hL c p (by omega) (by omega)).sm (by omega) | exact (hL c (p + 1) (by omega) (by omega)).sm (by omega) | exact hD2.sm (by omega))) evs.nil) (c_zint_Sign (uD (swpI G p) (p + 1)))) ?_
  refine WP.s .n (O.le rfl rfl) ?_
  refine WP.nil ?_
  refine QE.next ?_
  refine CW.condD rfl (fun h => absurd h (by have h1 := hP2.uD (show p + 1 ≤ n by omega); have := Int.sign_eq_one_of_pos h1; omega)) (fun h_t75 => ?_)
  refine CW.skip ?_
  refine QE.next ?_
  refine CW.seq ?_
  refine CW.seq ?_
  refine CW.region ?_
  refine WP.s .n (O.mv rfl) ?_
  refine WP.s .n (O.sub rfl rfl (c := (p : Int)) (w64 (by omega))) ?_
  refine WP.s .n (O.mv rfl) ?_
  refine WP.nil ?_
  refine QE.next ?_
  refine CW.block ?_
  refine ST.obtold 6 rfl (OB.fam_eq rfl (yss := (tri n (swF1 G p 0))) (by rw [swF1_0])) ?_
  refine CW.loop (fun (c : Nat) => c ≤ p) (fun (c : Nat) => [(1, (kInt .i64).is ((p : Int) + 1)), (2, VP.ex (.pointer (some ⟨b1, 0, none⟩))), (4, VP.ex (.pointer (some ⟨b2, 0, none⟩))), (6, VP.ex (.pointer (some ⟨b3, 0, none⟩))), (7, VP.ex (.pointer (some ⟨(σ1 26), 0, none⟩))), (9, VP.ex (.pointer (some ⟨(σ1 28), 0, none⟩))), (10, VP.ex (.pointer (some ⟨(σ1 29), 0, none⟩))), (11, VP.clo 242 [VP.pim kC (uD G (p + 1))]), (78, (kInt .i64).is (p : Int)), (79, (kInt .i64).is (c : Int))]) (fun (c : Nat) => [OB.box (σ1 26) 31 kC (uD G p), OB.box (σ1 28) 31 kC (uD G (p + 2)), OB.box (σ1 29) 31 kC (uE G p (p + 1) p), OB.box b3 93 (kPair kVal kVal) (vD, vL), OB.row vD 31 kC (gDs (swpI G p) n), OB.row vL 27 kVal us, OB.fam us 31 kC (tri n (swF1 G p c)), OB.box b2 93 (kPair (kSl kC) (kSl (kSl kC))) ([], []), OB.box b1 93 (kPair (kSl kC) (kSl (kSl kC))) (gDs G n, gLs G n)]) (fun (c : Nat) => p - c) 0 (by omega) (Imp.cons rfl (Imp.cons rfl (Imp.cons rfl (Imp.cons rfl (Imp.cons rfl (Imp.cons rfl (Imp.cons rfl (Imp.cons rfl (Imp.cons rfl (Imp.consLe rfl (is_eq (y := (0 : Int)) (by first | rfl | omega | assumption)) Imp.nil)))))))))) (OImp.refl _) ?_
  intro c hc
  refine CW.seq ?_
  refine CW.region ?_
  refine WP.s .n (O.lt rfl rfl) ?_
  refine WP.nil ?_
  refine QE.next ?_
  refine CW.seq ?_
  refine CW.condD rfl (fun h_t80 => ?_) (fun h_t80 => ?_)
  · refine CW.skip ?_
    refine QE.next ?_
    refine CW.seq ?_
    refine CW.block ?_
    refine CW.seq ?_
    refine CW.region ?_
    refine WP.s .n (O.mv rfl) ?_
    refine WP.s .n (O.asg rfl) ?_
    refine WP.nil ?_
    refine QE.next ?_
    refine CW.draw (Γ := [.fr (VP.ex (.pointer (some ⟨b3, 1, none⟩))), .fr (VP.ex vL), .fr ((kInt .i64).is ((p : Int) + 1)), .fr ((kInt .i64).is (((p : Int) + 1) - 1)), .fr (VP.pel vL (p * 1)), .fr (VP.ex (us.getD p nilV)), .fr ((kInt .i64).is (c : Int)), .fr (VP.ex (.pointer (some ⟨b3, 1, none⟩))), .fr (VP.ex vL), .fr ((kInt .i64).is ((p : Int) + 1)), .fr (VP.pel vL ((p + 1) * 1)), .fr (VP.ex (us.getD (p + 1) nilV)), .lt ((kInt .i64).is (c : Int)), .fr (VP.ex (.pointer (some ⟨b3, 1, none⟩))), .fr (VP.ex vL), .fr ((kInt .i64).is ((p : Int) + 1)), .fr (VP.pel vL ((p + 1) * 1)), .fr (VP.ex (us.getD (p + 1) nilV)), .fr ((kInt .i64).is (c : Int)), .fr (VP.pel (us.getD (p + 1) nilV) (c * 2)), .fr (kC.is (uE G c (p + 1) c)), .fr (VP.ex (.pointer (some ⟨b3, 1, none⟩))), .fr (VP.ex vL), .fr ((kInt .i64).is ((p : Int) + 1)), .fr ((kInt .i64).is (((p : Int) + 1) - 1)), .fr (VP.pel vL (p * 1)), .fr (VP.ex (us.getD p nilV)), .fr ((kInt .i64).is (c : Int)), .fr (VP.pel (us.getD p nilV) (c * 2)), .fr (kC.is (uE G c p c))]) (lates := [false, false, false, false, false, false, false, false, false, false, false, false, true, false, false, false, false, false, false, false, false, false, false, false, false, false, false, false, false, false]) (by kernel_rfl) (Chk.of rfl (by kernel_rfl) rfl) (fun _ _ _ _ _ h => h) (fun q_ x_ h_ => ?_) (fun σ3 => ?_)
    · match q_, h_ with
      | 0, h_ => cases h_; exact Ob.f rfl .n fun N => (O.fa rfl fld93_1 rfl)
      | 1, h_ => cases h_; exact Ob.f rfl .n fun N => (OpOk.le (O.ld (p := kVal.is vL) rfl (mem_app N (mem_at 3 rfl)) (Lens.snd (Lens.id _)) ty67 rfl) (val_ex _))
      | 2, h_ => cases h_; exact Ob.f rfl .n fun N => (O.mv rfl)
      | 3, h_ => cases h_; exact Ob.f rfl .n fun N => (O.sub rfl rfl (c := (((p : Int) + 1) - 1)) (w64 (by omega)))
      | 4, h_ => cases h_; exact Ob.f rfl .n fun N => (O.ixR (k := kVal) (xs := us) (n := (((p : Int) + 1) - 1)) p rfl rfl (mem_app N (mem_at 5 rfl)) Try.underlying67 ty27 (by omega) (by first | omega | (simp only [gRow_len, gDs_len, gLs_len, List.length_set]; omega) | (simp only [tri_len]; omega) | (rw [tri_rlen (by omega)]; omega) | (rw [tri_set _ (by omega), tri_rlen (by omega)]; omega)))
      | 5, h_ => cases h_; exact Ob.f rfl .n fun N => (OpOk.le (O.ldR p rfl (mem_app N (mem_at 5 rfl)) (Lens.id _) rfl (y := (us.getD p nilV)) (gd nilV (by first | omega | (simp only [gRow_len, gDs_len, gLs_len, List.length_set]; omega) | (simp only [tri_len]; omega) | (rw [tri_rlen (by omega)]; omega) | (rw [tri_set _ (by omega), tri_rlen (by omega)]; omega))) ty27 rfl) (val_ex _))
      | 6, h_ => cases h_; exact Ob.f rfl .n fun N => (O.mv rfl)
      | 7, h_ => cases h_; exact Ob.f rfl .n fun N => (O.fa rfl fld93_1 rfl)
      | 8, h_ => cases h_; exact Ob.f rfl .n fun N => (OpOk.le (O.ld (p := kVal.is vL) rfl (mem_app N (mem_at 3 rfl)) (Lens.snd (Lens.id _)) ty67 rfl) (val_ex _))
      | 9, h_ => cases h_; exact Ob.f rfl .n fun N => (O.mv rfl)
      | 10, h_ => cases h_; exact Ob.f rfl .n fun N => (O.ixR (k := kVal) (xs := us) (n := ((p : Int) + 1)) (p + 1) rfl rfl (mem_app N (mem_at 5 rfl)) Try.underlying67 ty27 (by omega) (by first | omega | (simp only [gRow_len, gDs_len, gLs_len, List.length_set]; omega) | (simp only [tri_len]; omega) | (rw [tri_rlen (by omega)]; omega) | (rw [tri_set _ (by omega), tri_rlen (by omega)]; omega)))
      | 11, h_ => cases h_; exact Ob.f rfl .n fun N => (OpOk.le (O.ldR (p + 1) rfl (mem_app N (mem_at 5 rfl)) (Lens.id _) rfl (y := (us.getD (p + 1) nilV)) (gd nilV (by first | omega | (simp only [gRow_len, gDs_len, gLs_len, List.length_set]; omega) | (simp only [tri_len]; omega) | (rw [tri_rlen (by omega)]; omega) | (rw [tri_set _ (by omega), tri_rlen (by omega)]; omega))) ty27 rfl) (val_ex _))
      | 12, h_ => cases h_; exact Ob.l rfl .n (OV.mv rfl)
      | 13, h_ => cases h_; exact Ob.f rfl .n fun N => (O.fa rfl fld93_1 rfl)
      | 14, h_ => cases h_; exact Ob.f rfl .n fun N => (OpOk.le (O.ld (p := kVal.is vL) rfl (mem_app N (mem_at 3 rfl)) (Lens.snd (Lens.id _)) ty67 rfl) (val_ex _))
      | 15, h_ => cases h_; exact Ob.f rfl .n fun N => (O.mv rfl)
      | 16, h_ => cases h_; exact Ob.f rfl .n fun N => (O.ixR (k := kVal) (xs := us) (n := ((p : Int) + 1)) (p + 1) rfl rfl (mem_app N (mem_at 5 rfl)) Try.underlying67 ty27 (by omega) (by first | omega | (simp only [gRow_len, gDs_len, gLs_len, List.length_set]; omega) | (simp only [tri_len]; omega) | (rw [tri_rlen (by omega)]; omega) | (rw [tri_set _ (by omega), tri_rlen (by omega)]; omega)))
      | 17, h_ => cases h_; exact Ob.f rfl .n fun N => (OpOk.le (O.ldR (p + 1) rfl (mem_app N (mem_at 5 rfl)) (Lens.id _) rfl (y := (us.getD (p + 1) nilV)) (gd nilV (by first | omega | (simp only [gRow_len, gDs_len, gLs_len, List.length_set]; omega) | (simp only [tri_len]; omega) | (rw [tri_rlen (by omega)]; omega) | (rw [tri_set _ (by omega), tri_rlen (by omega)]; omega))) ty27 rfl) (val_ex _))
      | 18, h_ => cases h_; exact Ob.f rfl .n fun N => (O.mv rfl)
      | 19, h_ => cases h_; exact Ob.f rfl .n fun N => (O.ixF (e := 31) (k := kC) (xss := (tri n (swF1 G p c))) (n := (c : Int)) (p + 1) c rfl rfl (mem_app N (mem_at 6 rfl)) rfl (by first | omega | (simp only [gRow_len, gDs_len, gLs_len, List.length_set]; omega) | (simp only [tri_len]; omega) | (rw [tri_rlen (by omega)]; omega) | (rw [tri_set _ (by omega), tri_rlen (by omega)]; omega)) Try.underlying27 ty31 rfl (by first | omega | (simp only [gRow_len, gDs_len, gLs_len, List.length_set]; omega) | (simp only [tri_len]; omega) | (rw [tri_rlen (by omega)]; omega) | (rw [tri_set _ (by omega), tri_rlen (by omega)]; omega)))
      | 20, h_ => cases h_; exact Ob.f rfl .n fun N => (O.ldF (k := kC) (xss := (tri n (swF1 G p c))) (p + 1) c rfl (mem_app N (mem_at 6 rfl)) rfl (by first | omega | (simp only [gRow_len, gDs_len, gLs_len, List.length_set]; omega) | (simp only [tri_len]; omega) | (rw [tri_rlen (by omega)]; omega) | (rw [tri_set _ (by omega), tri_rlen (by omega)]; omega)) (Lens.id _) rfl (y := (uE G c (p + 1) c)) (tri_at2 (by omega) (by omega) swF1_a) ty31 rfl)
      | 21, h_ => cases h_; exact Ob.f rfl .n fun N => (O.fa rfl fld93_1 rfl)
      | 22, h_ => cases h_; exact Ob.f rfl .n fun N => (OpOk.le (O.ld (p := kVal.is vL) rfl (mem_app N (mem_at 3 rfl)) (Lens.snd (Lens.id _)) ty67 rfl) (val_ex _))
      | 23, h_ => cases h_; exact Ob.f rfl .n fun N => (O.mv rfl)
      | 24, h_ => cases h_; exact Ob.f rfl .n fun N => (O.sub rfl rfl (c := (((p : Int) + 1) - 1)) (w64 (by omega)))
      | 25, h_ => cases h_; exact Ob.f rfl .n fun N => (O.ixR (k := kVal) (xs := us) (n := (((p : Int) + 1) - 1)) p rfl rfl (mem_app N (mem_at 5 rfl)) Try.underlying67 ty27 (by omega) (by first | omega | (simp only [gRow_len, gDs_len, gLs_len, List.length_set]; omega) | (simp only [tri_len]; omega) | (rw [tri_rlen (by omega)]; omega) | (rw [tri_set _ (by omega), tri_rlen (by omega)]; omega)))
      | 26, h_ => cases h_; exact Ob.f rfl .n fun N => (OpOk.le (O.ldR p rfl (mem_app N (mem_at 5 rfl)) (Lens.id _) rfl (y := (us.getD p nilV)) (gd nilV (by first | omega | (simp only [gRow_len, gDs_len, gLs_len, List.length_set]; omega) | (simp only [tri_len]; omega) | (rw [tri_rlen (by omega)]; omega) | (rw [tri_set _ (by omega), tri_rlen (by omega)]; omega))) ty27 rfl) (val_ex _))
      | 27, h_ => cases h_; exact Ob.f rfl .n fun N => (O.mv rfl)
      | 28, h_ => cases h_; exact Ob.f rfl .n fun N => (O.ixF (e := 31) (k := kC) (xss := (tri n (swF1 G p c))) (n := (c : Int)) p c rfl rfl (mem_app N (mem_at 6 rfl)) rfl (by first | omega | (simp only [gRow_len, gDs_len, gLs_len, List.length_set]; omega) | (simp only [tri_len]; omega) | (rw [tri_rlen (by omega)]; omega) | (rw [tri_set _ (by omega), tri_rlen (by omega)]; omega)) Try.underlying27 ty31 rfl (by first | omega | (simp only [gRow_len, gDs_len, gLs_len, List.length_set]; omega) | (simp only [tri_len]; omega) | (rw [tri_rlen (by omega)]; omega) | (rw [tri_set _ (by omega), tri_rlen (by omega)]; omega)))
      | 29, h_ => cases h_; exact Ob.f rfl .n fun N => (O.ldF (k := kC) (xss := (tri n (swF1 G p c))) p c rfl (mem_app N (mem_at 6 rfl)) rfl (by first | omega | (simp only [gRow_len, gDs_len, gLs_len, List.length_set]; omega) | (simp only [tri_len]; omega) | (rw [tri_rlen (by omega)]; omega) | (rw [tri_set _ (by omega), tri_rlen (by omega)]; omega)) (Lens.id _) rfl (y := (uE G c p c)) (tri_at2 (by omega) (by omega) swF1_b) ty31 rfl)
      | n_ + 30, h_ => simp at h_
    refine WP.s .n (O.ixF (e := 31) (k := kC) (xss := (tri n (swF1 G p c))) (n := (c : Int)) p c rfl rfl (mem_at 6 rfl) rfl (by first | omega | (simp only [gRow_len, gDs_len, gLs_len, List.length_set]; omega) | (simp only [tri_len]; omega) | (rw [tri_rlen (by omega)]; omega) | (rw [tri_set _ (by omega), tri_rlen (by omega)]; omega)) Try.underlying27 ty31 rfl (by first | omega | (simp only [gRow_len, gDs_len, gLs_len, List.length_set]; omega) | (simp only [tri_len]; omega) | (rw [tri_rlen (by omega)]; omega) | (rw [tri_set _ (by omega), tri_rlen (by omega)]; omega))) ?_
    refine WP.t .n (O.stF 6 p c rfl rfl rfl (by first | omega | (simp only [gRow_len, gDs_len, gLs_len, List.length_set]; omega) | (simp only [tri_len]; omega) | (rw [tri_rlen (by omega)]; omega) | (rw [tri_set _ (by omega), tri_rlen (by omega)]; omega)) (Lens.id _) rfl (y0 := (((tri n (swF1 G p c)).getD p []).getD c 0)) (gd 0 (by first | omega | (simp only [gRow_len, gDs_len, gLs_len, List.length_set]; omega) | (simp only [tri_len]; omega) | (rw [tri_rlen (by omega)]; omega) | (rw [tri_set _ (by omega), tri_rlen (by omega)]; omega))) ty31 rfl (VP.le_refl _)) ?_
    refine WP.s .n (O.ixF (e := 31) (k := kC) (xss := ((tri n (swF1 G p c)).set p (((tri n (swF1 G p c)).getD p []).set c (uE G c (p + 1) c)))) (n := (c : Int)) (p + 1) c rfl rfl (mem_at 6 rfl) rfl (by first | omega | (simp only [gRow_len, gDs_len, gLs_len, List.length_set]; omega) | (simp only [tri_len]; omega) | (rw [tri_rlen (by omega)]; omega) | (rw [tri_set _ (by omega), tri_rlen (by omega)]; omega)) Try.underlying27 ty31 rfl (by first | omega | (simp only [gRow_len, gDs_len, gLs_len, List.length_set]; omega) | (simp only [tri_len]; omega) | (rw [tri_rlen (by omega)]; omega) | (rw [tri_set _ (by omega), tri_rlen (by omega)]; omega))) ?_
    refine WP.t .n (O.stF 6 (p + 1) c rfl rfl rfl (by first | omega | (simp only [gRow_len, gDs_len, gLs_len, List.length_set]; omega) | (simp only [tri_len]; omega) | (rw [tri_rlen (by omega)]; omega) | (rw [tri_set _ (by omega), tri_rlen (by omega)]; omega)) (Lens.id _) rfl (y0 := ((((tri n (swF1 G p c)).set p (((tri n (swF1 G p c)).getD p []).set c (uE G c (p + 1) c))).getD (p + 1) []).getD c 0)) (gd 0 (by first | omega | (simp only [gRow_len, gDs_len, gLs_len, List.length_set]; omega) | (simp only [tri_len]; omega) | (rw [tri_rlen (by omega)]; omega) | (rw [tri_set _ (by omega), tri_rlen (by omega)]; omega))) ty31 rfl (VP.le_refl _)) ?_
    refine WP.nil ?_
    refine QE.blkN ?_
    refine QE.next ?_
    refine CW.region ?_
    refine WP.s .n (O.add rfl rfl (c := ((c : Int) + 1)) (w64 (by omega))) ?_
    refine WP.s .n (O.mv rfl) ?_
    refine WP.nil ?_
    refine ST.obtold 6 rfl (OB.fam_eq rfl (yss := (tri n (swF1 G p (c + 1)))) (by rw [tri_set _ (by omega), tri_set _ (by omega), swF1_s])) ?_
    exact QE.round (c + 1) (by omega) (by omega) (Imp.cons rfl (Imp.cons rfl (Imp.cons rfl (Imp.cons rfl (Imp.cons rfl (Imp.cons rfl (Imp.cons rfl (Imp.cons rfl (Imp.cons rfl (Imp.consLe rfl (is_eq (y := (((c + 1) : Nat) : Int)) (by first | rfl | omega | assumption)) Imp.nil)))))))))) (OImp.refl _)
  · refine CW.exit ?_
    refine QE.thenE ?_
    refine QE.thenE ?_
    refine QE.blkH ?_
    refine QE.next ?_
    refine CW.seq ?_
    refine CW.seq ?_
    refine CW.region ?_
    refine WP.s .n (O.mv rfl) ?_
    refine WP.s .n (O.add rfl rfl (c := ((p + 2 : Nat) : Int)) (w64 (by omega))) ?_
    refine WP.s .n (O.asg rfl) ?_
    refine WP.nil ?_
    refine QE.next ?_
    refine CW.block ?_
    refine ST.obtold 6 rfl (OB.fam_eq rfl (yss := (tri n (swF2 G p (p + 2)))) (by rw [show c = p by omega, swF2_0])) ?_
    refine CW.loop (fun (c : Nat) => p + 2 ≤ c ∧ c ≤ n) (fun (c : Nat) => [(1, (kInt .i64).is ((p : Int) + 1)), (2, VP.ex (.pointer (some ⟨b1, 0, none⟩))), (4, VP.ex (.pointer (some ⟨b2, 0, none⟩))), (6, VP.ex (.pointer (some ⟨b3, 0, none⟩))), (7, VP.ex (.pointer (some ⟨(σ1 26), 0, none⟩))), (9, VP.ex (.pointer (some ⟨(σ1 28), 0, none⟩))), (10, VP.ex (.pointer (some ⟨(σ1 29), 0, none⟩))), (11, VP.clo 242 [VP.pim kC (uD G (p + 1))]), (13, (kInt .i64).is (c : Int))]) (fun (c : Nat) => [OB.box (σ1 26) 31 kC (uD G p), OB.box (σ1 28) 31 kC (uD G (p + 2)), OB.box (σ1 29) 31 kC (uE G p (p + 1) p), OB.box b3 93 (kPair kVal kVal) (vD, vL), OB.row vD 31 kC (gDs (swpI G p) n), OB.row vL 27 kVal us, OB.fam us 31 kC (tri n (swF2 G p c)), OB.box b2 93 (kPair (kSl kC) (kSl (kSl kC))) ([], []), OB.box b1 93 (kPair (kSl kC) (kSl (kSl kC))) (gDs G n, gLs G n)]) (fun (c : Nat) => n - c) (p + 2) ⟨Nat.le_refl _, by omega⟩ (Imp.cons rfl (Imp.cons rfl (Imp.cons rfl (Imp.cons rfl (Imp.cons rfl (Imp.cons rfl (Imp.cons rfl (Imp.cons rfl (Imp.consLe rfl (is_eq (y := (((p + 2) : Nat) : Int)) (by first | rfl | omega | assumption)) Imp.nil))))))))) (OImp.refl _) ?_
    intro c ⟨hc0, hc⟩
    refine CW.seq ?_
    refine CW.seq ?_
    refine CW.region ?_
    refine WP.s .n (O.mv rfl) ?_
    refine WP.s .n (O.fa rfl fld93_1 rfl) ?_
    refine WP.s .n (O.ld (p := (kSl (kSl kC)).is (gLs G n)) rfl (mem_at 8 rfl) (Lens.snd (Lens.id _)) ty67 rfl) ?_
    refine WP.s .n (O.lenS rfl Try.underlying67) ?_
    refine WP.s .n (O.lt rfl rfl) ?_
    refine WP.nil ?_
    refine QE.next ?_
    refine CW.condD rfl (fun h_t121 => ?_) (fun h_t121 => ?_)
    · refine CW.skip ?_
      refine QE.next ?_
      refine CW.seq ?_
      refine CW.block ?_
      refine CW.seq ?_
      refine CW.drawS (Γ := [.fr (VP.ex (.pointer (some ⟨b1, 1, none⟩))), .fr ((kSl (kSl kC)).is (gLs G n)), .fr ((kInt .i64).is (c : Int)), .fr (VP.pim (kSl kC) ((gLs G n).getD c [])), .fr ((kSl kC).is ((gLs G n).getD c [])), .fr ((kInt .i64).is ((p : Int) + 1)), .fr ((kInt .i64).is (((p : Int) + 1) - 1)), .fr (VP.pim kC (uE G p c p)), .fr (kC.is (uE G p c p)), .fr (VP.ex (.pointer (some ⟨b1, 1, none⟩))), .fr ((kSl (kSl kC)).is (gLs G n)), .fr ((kInt .i64).is (c : Int)), .fr (VP.pim (kSl kC) ((gLs G n).getD c [])), .fr ((kSl kC).is ((gLs G n).getD c [])), .fr ((kInt .i64).is ((p : Int) + 1)), .fr (VP.pim kC (uE G (p + 1) c (p + 1))), .fr (kC.is (uE G (p + 1) c (p + 1))), .al (fun b => OB.box b 31 kC 0) (fun b => OB.box b 31 kC (uE G p c p)) 19, .al (fun b => OB.box b 31 kC 0) (fun b => OB.box b 31 kC (uE G (p + 1) c (p + 1))) 20, .st 17, .st 18]) (by kernel_rfl) (ChkS.of (sh := [(0, 0), (0, 0), (0, 0), (0, 0), (0, 0), (0, 0), (0, 0), (0, 0), (0, 0), (0, 0), (0, 0), (0, 0), (0, 0), (0, 0), (0, 0), (0, 0), (0, 0), (1, 19), (1, 20), (2, 17), (2, 18)]) rfl (by kernel_rfl) rfl) (fun q_ x_ h_ => ?_) (fun σ4 => ?_)
      · match q_, h_ with
        | 0, h_ => cases h_; exact ObS.f rfl (fun σ4 => .n) (fun σ4 N => (O.fa rfl fld93_1 rfl))
        | 1, h_ => cases h_; exact ObS.f rfl (fun σ4 => .n) (fun σ4 N => (O.ld (p := (kSl (kSl kC)).is (gLs G n)) rfl (mem_app N (mem_at 8 rfl)) (Lens.snd (Lens.id _)) ty67 rfl))
        | 2, h_ => cases h_; exact ObS.f rfl (fun σ4 => .n) (fun σ4 N => (O.mv rfl))
        | 3, h_ => cases h_; exact ObS.f rfl (fun σ4 => .n) (fun σ4 N => (O.ix c rfl rfl Try.underlying67 ty27 rfl (v := ((gLs G n).getD c [])) (gd [] (by first | omega | (simp only [gRow_len, gDs_len, gLs_len, List.length_set]; omega) | (simp only [tri_len]; omega) | (rw [tri_rlen (by omega)]; omega) | (rw [tri_set _ (by omega), tri_rlen (by omega)]; omega)))))
        | 4, h_ => cases h_; exact ObS.f rfl (fun σ4 => .n) (fun σ4 N => (O.ldP rfl ty27))
        | 5, h_ => cases h_; exact ObS.f rfl (fun σ4 => .n) (fun σ4 N => (O.mv rfl))
        | 6, h_ => cases h_; exact ObS.f rfl (fun σ4 => .n) (fun σ4 N => (O.sub rfl rfl (c := (((p : Int) + 1) - 1)) (w64 (by omega))))
        | 7, h_ => cases h_; exact ObS.f rfl (fun σ4 => .n) (fun σ4 N => (O.ix p rfl rfl Try.underlying27 ty31 (by omega) (v := (uE G p c p)) (gLs_at (by omega) (by omega))))
        | 8, h_ => cases h_; exact ObS.f rfl (fun σ4 => .n) (fun σ4 N => (O.ldP rfl ty31))
        | 9, h_ => cases h_; exact ObS.f rfl (fun σ4 => .n) (fun σ4 N => (O.fa rfl fld93_1 rfl))
        | 10, h_ => cases h_; exact ObS.f rfl (fun σ4 => .n) (fun σ4 N => (O.ld (p := (kSl (kSl kC)).is (gLs G n)) rfl (mem_app N (mem_at 8 rfl)) (Lens.snd (Lens.id _)) ty67 rfl))
        | 11, h_ => cases h_; exact ObS.f rfl (fun σ4 => .n) (fun σ4 N => (O.mv rfl))
        | 12, h_ => cases h_; exact ObS.f rfl (fun σ4 => .n) (fun σ4 N => (O.ix c rfl rfl Try.underlying67 ty27 rfl (v := ((gLs G n).getD c [])) (gd [] (by first | omega | (simp only [gRow_len, gDs_len, gLs_len, List.length_set]; omega) | (simp only [tri_len]; omega) | (rw [tri_rlen (by omega)]; omega) | (rw [tri_set _ (by omega), tri_rlen (by omega)]; omega)))))
        | 13, h_ => cases h_; exact ObS.f rfl (fun σ4 => .n) (fun σ4 N => (O.ldP rfl ty27))
        | 14, h_ => cases h_; exact ObS.f rfl (fun σ4 => .n) (fun σ4 N => (O.mv rfl))
        | 15, h_ => cases h_; exact ObS.f rfl (fun σ4 => .n) (fun σ4 N => (O.ix (p + 1) rfl rfl Try.underlying27 ty31 (by omega) (v := (uE G (p + 1) c (p + 1))) (gLs_at (by omega) (by omega))))
        | 16, h_ => cases h_; exact ObS.f rfl (fun σ4 => .n) (fun σ4 N => (O.ldP rfl ty31))
        | 17, h_ => cases h_; exact ObS.a rfl z31_C
        | 18, h_ => cases h_; exact ObS.a rfl z31_C
        | 19, h_ => cases h_; exact ObS.s rfl rfl (fun σ4 => .n) (fun σ4 N => (O.stW (l := kC) (u := (uE G p c p)) 0 rfl rfl rfl ty31 rfl (VP.le_refl _)))
        | 20, h_ => cases h_; exact ObS.s rfl rfl (fun σ4 => .n) (fun σ4 N => (O.stW (l := kC) (u := (uE G (p + 1) c (p + 1))) 0 rfl rfl rfl ty31 rfl (VP.le_refl _)))
        | n_ + 21, h_ => simp at h_
      refine QE.next ?_
      refine CW.seq ?_
      refine CW.draw (Γ := [.fr (VP.ex (.pointer (some ⟨b3, 1, none⟩))), .fr (VP.ex vL), .fr ((kInt .i64).is (c : Int)), .fr (VP.pel vL (c * 1)), .fr (VP.ex (us.getD c nilV)), .fr ((kInt .i64).is ((p : Int) + 1)), .fr ((kInt .i64).is (((p : Int) + 1) - 1)), .fr (VP.clo 242 [VP.pim kC (uD G (p + 1))]), .fr (kC.is (uD G p)), .fr (kC.is (uE G (p + 1) c (p + 1))), .fr (kC.is (uE G p (p + 1) p)), .fr (kC.is (uE G p c p)), .fr (kC.is (((uD G p) * (uE G (p + 1) c (p + 1)) + (uE G p (p + 1) p) * (uE G p c p)).fdiv (uD G (p + 1)))), .fr (VP.pel (us.getD c nilV) (p * 2))]) (lates := [false, false, false, false, false, false, false, false, false, false, false, false, false, false]) (by kernel_rfl) (Chk.of rfl (by kernel_rfl) rfl) (fun _ _ _ _ _ h => h) (fun q_ x_ h_ => ?_) (fun σ5 => ?_)
      · match q_, h_ with
        | 0, h_ => cases h_; exact Ob.f rfl .n fun N => (O.fa rfl fld93_1 rfl)
        | 1, h_ => cases h_; exact Ob.f rfl .n fun N => (OpOk.le (O.ld (p := kVal.is vL) rfl (mem_app N (mem_at 5 rfl)) (Lens.snd (Lens.id _)) ty67 rfl) (val_ex _))
        | 2, h_ => cases h_; exact Ob.f rfl .n fun N => (O.mv rfl)
        | 3, h_ => cases h_; exact Ob.f rfl .n fun N => (O.ixR (k := kVal) (xs := us) (n := (c : Int)) c rfl rfl (mem_app N (mem_at 7 rfl)) Try.underlying67 ty27 rfl (by first | omega | (simp only [gRow_len, gDs_len, gLs_len, List.length_set]; omega) | (simp only [tri_len]; omega) | (rw [tri_rlen (by omega)]; omega) | (rw [tri_set _ (by omega), tri_rlen (by omega)]; omega)))
        | 4, h_ => cases h_; exact Ob.f rfl .n fun N => (OpOk.le (O.ldR c rfl (mem_app N (mem_at 7 rfl)) (Lens.id _) rfl (y := (us.getD c nilV)) (gd nilV (by first | omega | (simp only [gRow_len, gDs_len, gLs_len, List.length_set]; omega) | (simp only [tri_len]; omega) | (rw [tri_rlen (by omega)]; omega) | (rw [tri_set _ (by omega), tri_rlen (by omega)]; omega))) ty27 rfl) (val_ex _))
        | 5, h_ => cases h_; exact Ob.f rfl .n fun N => (O.mv rfl)
        | 6, h_ => cases h_; exact Ob.f rfl .n fun N => (O.sub rfl rfl (c := (((p : Int) + 1) - 1)) (w64 (by omega)))
        | 7, h_ => cases h_; exact Ob.f rfl .n fun N => (O.mv rfl)
        | 8, h_ => cases h_; exact Ob.f rfl .n fun N => (O.ld rfl (mem_app N (mem_at 2 rfl)) (Lens.id _) ty31 rfl)
        | 9, h_ => cases h_; exact Ob.f rfl .n fun N => (O.ld rfl (mem_app N (mem_at 1 rfl)) (Lens.id _) ty31 rfl)
        | 10, h_ => cases h_; exact Ob.f rfl .n fun N => (O.ld rfl (mem_app N (mem_at 4 rfl)) (Lens.id _) ty31 rfl)
        | 11, h_ => cases h_; exact Ob.f rfl .n fun N => (O.ld rfl (mem_app N (mem_at 0 rfl)) (Lens.id _) ty31 rfl)
        | 12, h_ => cases h_; exact Ob.f rfl .n fun N => (O.clo rfl fn242 (evs.l rfl (kC_Z (by first | exact (hD p (by omega)).sm (by omega) | exact (hD (p + 1) (by omega)).sm (by omega) | exact (hD (p + 2) (by omega)).sm (by omega) | exact hl0.sm (by omega) | exact hl0.neg.sm (by omega) | exact (hL c p (by omega) (by omega)).sm (by omega) | exact (hL c (p + 1) (by omega) (by omega)).sm (by omega) | exact hD2.sm (by omega))) (evs.l rfl (kC_Z (by first | exact (hD p (by omega)).sm (by omega) | exact (hD (p + 1) (by omega)).sm (by omega) | exact (hD (p + 2) (by omega)).sm (by omega) | exact hl0.sm (by omega) | exact hl0.neg.sm (by omega) | exact (hL c p (by omega) (by omega)).sm (by omega) | exact (hL c (p + 1) (by omega) (by omega)).sm (by omega) | exact hD2.sm (by omega))) (evs.l rfl (kC_Z (by first | exact (hD p (by omega)).sm (by omega) | exact (hD (p + 1) (by omega)).sm (by omega) | exact (hD (p + 2) (by omega)).sm (by omega) | exact hl0.sm (by omega) | exact hl0.neg.sm (by omega) | exact (hL c p (by omega) (by omega)).sm (by omega) | exact (hL c (p + 1) (by omega) (by omega)).sm (by omega) | exact hD2.sm (by omega))) (evs.l rfl (kC_Z (by first | exact (hD p (by omega)).sm (by omega) | exact (hD (p + 1) (by omega)).sm (by omega) | exact (hD (p + 2) (by omega)).sm (by omega) | exact hl0.sm (by omega) | exact hl0.neg.sm (by omega) | exact (hL c p (by omega) (by omega)).sm (by omega) | exact (hL c (p + 1) (by omega) (by omega)).sm (by omega) | exact hD2.sm (by omega))) evs.nil)))) (c_gso_Swap1 B (uD G p) (uE G (p + 1) c (p + 1)) (uE G p (p + 1) p) (uE G p c p) (uD G (p + 1)) (by first | assumption | exact gDs_Sm hD (by omega) | exact gLs_Sm hL (by omega) | (rw [gDs_len]; omega) | (rw [gLs_len]; omega) | exact hD _ (by omega)) (hL c (p + 1) (by omega) (by omega)) hl0 (hL c p (by omega) (by omega)) (by first | assumption | exact gDs_Sm hD (by omega) | exact gLs_Sm hL (by omega) | (rw [gDs_len]; omega) | (rw [gLs_len]; omega) | exact hD _ (by omega)) he0 (by first | assumption | exact gDs_Sm hD (by omega) | exact gLs_Sm hL (by omega) | (rw [gDs_len]; omega) | (rw [gLs_len]; omega) | exact hD _ (by omega))))
        | 13, h_ => cases h_; exact Ob.f rfl .n fun N => (O.ixF (e := 31) (k := kC) (xss := (tri n (swF2 G p c))) (n := (((p : Int) + 1) - 1)) c p rfl rfl (mem_app N (mem_at 8 rfl)) rfl (by first | omega | (simp only [gRow_len, gDs_len, gLs_len, List.length_set]; omega) | (simp only [tri_len]; omega) | (rw [tri_rlen (by omega)]; omega) | (rw [tri_set _ (by omega), tri_rlen (by omega)]; omega)) Try.underlying27 ty31 (by omega) (by first | omega | (simp only [gRow_len, gDs_len, gLs_len, List.length_set]; omega) | (simp only [tri_len]; omega) | (rw [tri_rlen (by omega)]; omega) | (rw [tri_set _ (by omega), tri_rlen (by omega)]; omega)))
        | n_ + 14, h_ => simp at h_
      refine WP.t .n (O.stF 8 c p rfl rfl rfl (by first | omega | (simp only [gRow_len, gDs_len, gLs_len, List.length_set]; omega) | (simp only [tri_len]; omega) | (rw [tri_rlen (by omega)]; omega) | (rw [tri_set _ (by omega), tri_rlen (by omega)]; omega)) (Lens.id _) rfl (y0 := (((tri n (swF2 G p c)).getD c []).getD p 0)) (gd 0 (by first | omega | (simp only [gRow_len, gDs_len, gLs_len, List.length_set]; omega) | (simp only [tri_len]; omega) | (rw [tri_rlen (by omega)]; omega) | (rw [tri_set _ (by omega), tri_rlen (by omega)]; omega))) ty31 rfl (VP.le_refl _)) ?_
      refine WP.nil ?_
      refine QE.next ?_
      refine CW.draw (Γ := [.fr (VP.ex (.pointer (some ⟨b3, 1, none⟩))), .fr (VP.ex vL), .fr ((kInt .i64).is (c : Int)), .fr (VP.pel vL (c * 1)), .fr (VP.ex (us.getD c nilV)), .fr ((kInt .i64).is ((p : Int) + 1)), .fr (VP.clo 242 [VP.pim kC (uD G (p + 1))]), .fr (kC.is (uD G (p + 2))), .fr (kC.is (uE G p c p)), .fr (kC.is (uE G p (p + 1) p)), .fr (kC.is (-(uE G p (p + 1) p))), .fr (kC.is (uE G (p + 1) c (p + 1))), .fr (kC.is (((uD G (p + 2)) * (uE G p c p) + (-(uE G p (p + 1) p)) * (uE G (p + 1) c (p + 1))).fdiv (uD G (p + 1)))), .fr (VP.pel (us.getD c nilV) ((p + 1) * 2))]) (lates := [false, false, false, false, false, false, false, false, false, false, false, false, false, false]) (by kernel_rfl) (Chk.of rfl (by kernel_rfl) rfl) (fun _ _ _ _ _ h => h) (fun q_ x_ h_ => ?_) (fun σ6 => ?_)
      · match q_, h_ with
        | 0, h_ => cases h_; exact Ob.f rfl .n fun N => (O.fa rfl fld93_1 rfl)
        | 1, h_ => cases h_; exact Ob.f rfl .n fun N => (OpOk.le (O.ld (p := kVal.is vL) rfl (mem_app N (mem_at 5 rfl)) (Lens.snd (Lens.id _)) ty67 rfl) (val_ex _))
        | 2, h_ => cases h_; exact Ob.f rfl .n fun N => (O.mv rfl)
        | 3, h_ => cases h_; exact Ob.f rfl .n fun N => (O.ixR (k := kVal) (xs := us) (n := (c : Int)) c rfl rfl (mem_app N (mem_at 7 rfl)) Try.underlying67 ty27 rfl (by first | omega | (simp only [gRow_len, gDs_len, gLs_len, List.length_set]; omega) | (simp only [tri_len]; omega) | (rw [tri_rlen (by omega)]; omega) | (rw [tri_set _ (by omega), tri_rlen (by omega)]; omega)))
        | 4, h_ => cases h_; exact Ob.f rfl .n fun N => (OpOk.le (O.ldR c rfl (mem_app N (mem_at 7 rfl)) (Lens.id _) rfl (y := (us.getD c nilV)) (gd nilV (by first | omega | (simp only [gRow_len, gDs_len, gLs_len, List.length_set]; omega) | (simp only [tri_len]; omega) | (rw [tri_rlen (by omega)]; omega) | (rw [tri_set _ (by omega), tri_rlen (by omega)]; omega))) ty27 rfl) (val_ex _))
        | 5, h_ => cases h_; exact Ob.f rfl .n fun N => (O.mv rfl)
        | 6, h_ => cases h_; exact Ob.f rfl .n fun N => (O.mv rfl)
        | 7, h_ => cases h_; exact Ob.f rfl .n fun N => (O.ld rfl (mem_app N (mem_at 3 rfl)) (Lens.id _) ty31 rfl)
        | 8, h_ => cases h_; exact Ob.f rfl .n fun N => (O.ld rfl (mem_app N (mem_at 0 rfl)) (Lens.id _) ty31 rfl)
        | 9, h_ => cases h_; exact Ob.f rfl .n fun N => (O.ld rfl (mem_app N (mem_at 4 rfl)) (Lens.id _) ty31 rfl)
        | 10, h_ => cases h_; exact Ob.f rfl .n fun N => (O.fn fn161 (evs.l rfl (kC_Z (by first | exact (hD p (by omega)).sm (by omega) | exact (hD (p + 1) (by omega)).sm (by omega) | exact (hD (p + 2) (by omega)).sm (by omega) | exact hl0.sm (by omega) | exact hl0.neg.sm (by omega) | exact (hL c p (by omega) (by omega)).sm (by omega) | exact (hL c (p + 1) (by omega) (by omega)).sm (by omega) | exact hD2.sm (by omega))) evs.nil) (c_zint_Neg (uE G p (p + 1) p)))
        | 11, h_ => cases h_; exact Ob.f rfl .n fun N => (O.ld rfl (mem_app N (mem_at 1 rfl)) (Lens.id _) ty31 rfl)
        | 12, h_ => cases h_; exact Ob.f rfl .n fun N => (O.clo rfl fn242 (evs.l rfl (kC_Z (by first | exact (hD p (by omega)).sm (by omega) | exact (hD (p + 1) (by omega)).sm (by omega) | exact (hD (p + 2) (by omega)).sm (by omega) | exact hl0.sm (by omega) | exact hl0.neg.sm (by omega) | exact (hL c p (by omega) (by omega)).sm (by omega) | exact (hL c (p + 1) (by omega) (by omega)).sm (by omega) | exact hD2.sm (by omega))) (evs.l rfl (kC_Z (by first | exact (hD p (by omega)).sm (by omega) | exact (hD (p + 1) (by omega)).sm (by omega) | exact (hD (p + 2) (by omega)).sm (by omega) | exact hl0.sm (by omega) | exact hl0.neg.sm (by omega) | exact (hL c p (by omega) (by omega)).sm (by omega) | exact (hL c (p + 1) (by omega) (by omega)).sm (by omega) | exact hD2.sm (by omega))) (evs.l rfl (kC_Z (by first | exact (hD p (by omega)).sm (by omega) | exact (hD (p + 1) (by omega)).sm (by omega) | exact (hD (p + 2) (by omega)).sm (by omega) | exact hl0.sm (by omega) | exact hl0.neg.sm (by omega) | exact (hL c p (by omega) (by omega)).sm (by omega) | exact (hL c (p + 1) (by omega) (by omega)).sm (by omega) | exact hD2.sm (by omega))) (evs.l rfl (kC_Z (by first | exact (hD p (by omega)).sm (by omega) | exact (hD (p + 1) (by omega)).sm (by omega) | exact (hD (p + 2) (by omega)).sm (by omega) | exact hl0.sm (by omega) | exact hl0.neg.sm (by omega) | exact (hL c p (by omega) (by omega)).sm (by omega) | exact (hL c (p + 1) (by omega) (by omega)).sm (by omega) | exact hD2.sm (by omega))) evs.nil)))) (c_gso_Swap1 B (uD G (p + 2)) (uE G p c p) (-(uE G p (p + 1) p)) (uE G (p + 1) c (p + 1)) (uD G (p + 1)) (by first | assumption | exact gDs_Sm hD (by omega) | exact gLs_Sm hL (by omega) | (rw [gDs_len]; omega) | (rw [gLs_len]; omega) | exact hD _ (by omega)) (hL c p (by omega) (by omega)) hl0.neg (hL c (p + 1) (by omega) (by omega)) (by first | assumption | exact gDs_Sm hD (by omega) | exact gLs_Sm hL (by omega) | (rw [gDs_len]; omega) | (rw [gLs_len]; omega) | exact hD _ (by omega)) he0 (by first | assumption | exact gDs_Sm hD (by omega) | exact gLs_Sm hL (by omega) | (rw [gDs_len]; omega) | (rw [gLs_len]; omega) | exact hD _ (by omega))))
        | 13, h_ => cases h_; exact Ob.f rfl .n fun N => (O.ixF (e := 31) (k := kC) (xss := ((tri n (swF2 G p c)).set c (((tri n (swF2 G p c)).getD c []).set p (((uD G p) * (uE G (p + 1) c (p + 1)) + (uE G p (p + 1) p) * (uE G p c p)).fdiv (uD G (p + 1)))))) (n := ((p : Int) + 1)) c (p + 1) rfl rfl (mem_app N (mem_at 8 rfl)) rfl (by first | omega | (simp only [gRow_len, gDs_len, gLs_len, List.length_set]; omega) | (simp only [tri_len]; omega) | (rw [tri_rlen (by omega)]; omega) | (rw [tri_set _ (by omega), tri_rlen (by omega)]; omega)) Try.underlying27 ty31 (by omega) (by first | omega | (simp only [gRow_len, gDs_len, gLs_len, List.length_set]; omega) | (simp only [tri_len]; omega) | (rw [tri_rlen (by omega)]; omega) | (rw [tri_set _ (by omega), tri_rlen (by omega)]; omega)))
        | n_ + 14, h_ => simp at h_
      refine WP.t .n (O.stF 8 c (p + 1) rfl rfl rfl (by first | omega | (simp only [gRow_len, gDs_len, gLs_len, List.length_set]; omega) | (simp only [tri_len]; omega) | (rw [tri_rlen (by omega)]; omega) | (rw [tri_set _ (by omega), tri_rlen (by omega)]; omega)) (Lens.id _) rfl (y0 := ((((tri n (swF2 G p c)).set c (((tri n (swF2 G p c)).getD c []).set p (((uD G p) * (uE G (p + 1) c (p + 1)) + (uE G p (p + 1) p) * (uE G p c p)).fdiv (uD G (p + 1))))).getD c []).getD (p + 1) 0)) (gd 0 (by first | omega | (simp only [gRow_len, gDs_len, gLs_len, List.length_set]; omega) | (simp only [tri_len]; omega) | (rw [tri_rlen (by omega)]; omega) | (rw [tri_set _ (by omega), tri_rlen (by omega)]; omega))) ty31 rfl (VP.le_refl _)) ?_
      refine WP.nil ?_
      refine QE.blkN ?_
      refine QE.next ?_
      refine CW.region ?_
      refine WP.s .n (O.mv rfl) ?_
      refine WP.s .n (O.add rfl rfl (c := ((c : Int) + 1)) (w64 (by omega))) ?_
      refine WP.s .n (O.asg rfl) ?_
      refine WP.nil ?_
      refine ST.obtold 8 rfl (OB.fam_eq rfl (yss := (tri n (swF2 G p (c + 1)))) (by rw [tri_set _ (by omega), tri_set _ (by omega)]; exact congrArg (tri n) (swF2_s (by omega)))) ?_
      exact QE.round (c + 1) (by omega) ⟨by omega, by omega⟩ (Imp.cons rfl (Imp.cons rfl (Imp.cons rfl (Imp.cons rfl (Imp.cons rfl (Imp.cons rfl (Imp.cons rfl (Imp.cons rfl (Imp.consLe rfl (is_eq (y := (((c + 1) : Nat) : Int)) (by first | rfl | omega | assumption)) Imp.nil))))))))) (OImp.os (OS.skip (OS.skip (OS.keep (OS.keep (OS.keep (OS.keep (OS.keep (OS.keep (OS.keep (OS.keep (OS.keep OS.nil))))))))))))
    · refine CW.exit ?_
      refine QE.thenE ?_
      refine QE.thenE ?_
      refine QE.blkH ?_
      refine QE.next ?_
      refine CW.seq ?_
      refine ST.obtold 6 rfl (OB.fam_eq rfl (yss := (gLs (swpI G p) n)) (by rw [show c = n by omega]; exact swF2_end hs hP hp1)) ?_
      refine ST.freezeIn (k2 := (kPair (kSl kC) kVal)) ((gDs (swpI G p) n), vL) 4 3 rfl rfl (fun m_ cs_ h_ c_ => fz_fst m_ cs_ h_ c_) (.keep (i := 1) rfl (.keep (i := 2) rfl (.keep (i := 4) rfl (.keep (i := 6) rfl (.keep (i := 7) rfl (.keep (i := 9) rfl (.keep (i := 10) rfl (.keep (i := 11) rfl (.keep (i := 13) rfl (.keep (i := 117) rfl (.keep (i := 118) rfl (.keep (i := 119) rfl (.keep (i := 120) rfl (.keep (i := 121) rfl .nil)))))))))))))) ?_
      refine ST.freezeMIn (k2 := (kPair (kSl kC) (kSl (kSl kC)))) ((gDs (swpI G p) n), (gLs (swpI G p) n)) 5 4 3 rfl rfl rfl (fun m_ cs_ h_ c_ => fz_snd m_ cs_ h_ c_) (.keep (i := 1) rfl (.keep (i := 2) rfl (.keep (i := 4) rfl (.keep (i := 6) rfl (.keep (i := 7) rfl (.keep (i := 9) rfl (.keep (i := 10) rfl (.keep (i := 11) rfl (.keep (i := 13) rfl (.keep (i := 117) rfl (.keep (i := 118) rfl (.keep (i := 119) rfl (.keep (i := 120) rfl (.keep (i := 121) rfl .nil)))))))))))))) ?_
      refine CW.region ?_
      refine WP.s .n (O.ld (p := (kPair (kSl kC) (kSl (kSl kC))).is ((gDs (swpI G p) n), (gLs (swpI G p) n))) rfl (mem_at 3 rfl) (Lens.id _) ty93 rfl) ?_
      refine WP.t .n (O.stW (l := (kPair (kSl kC) (kSl (kSl kC)))) (u := ((gDs (swpI G p) n), (gLs (swpI G p) n))) 4 rfl rfl rfl ty93 rfl (VP.le_refl _)) ?_
      refine WP.s .n (O.asg rfl) ?_
      refine WP.nil ?_
      refine QE.next ?_
      refine CW.ret ?_
      exact QE.done (.inl rfl) rfl (ResOk.cl rfl (mem_at 4 rfl) ty93 (is_eq (y := (gDs (swpI G p) n, gLs (swpI G p) n)) (by first | rfl | omega | assumption)) (ResOk.t rfl ResOk.nil)) (OImp.sub (List.nil_sublist _)) ⟨rfl, rfl⟩

end Fw


/- Plain facts: a form as a sum of squares; how long coefficients can be. -/
set_option linter.unusedVariables false
set_option linter.unusedSimpArgs false
set_option exponentiation.threshold 400
namespace Fw
open Go

/-! ### Sums of fractions -/
def sumQ (f : Nat → Rat) : Nat → Rat
  | 0 => 0
  | n + 1 => sumQ f n + f n
theorem sumQ_congr {f g : Nat → Rat} : ∀ {n}, (∀ i, i < n → f i = g i) → sumQ f n = sumQ g n
  | 0, _ => rfl
  | n + 1, h => by rw [sumQ, sumQ, sumQ_congr (fun i hi => h i (by omega)), h n (by omega)]
theorem sumQ_add (f g : Nat → Rat) : ∀ n, sumQ (fun i => f i + g i) n = sumQ f n + sumQ g n
  | 0 => by simp only [sumQ]; grind
  | n + 1 => by simp only [sumQ]; rw [sumQ_add f g n]; grind
theorem sumQ_sub (f g : Nat → Rat) : ∀ n, sumQ (fun i => f i - g i) n = sumQ f n - sumQ g n
  | 0 => by simp [sumQ]; grind
  | n + 1 => by simp only [sumQ]; rw [sumQ_sub f g n]; grind
theorem sumQ_mul (f : Nat → Rat) (c : Rat) : ∀ n, sumQ f n * c = sumQ (fun i => f i * c) n
  | 0 => by simp [sumQ]
  | n + 1 => by simp only [sumQ]; rw [← sumQ_mul f c n]; grind
theorem mul_sumQ (f : Nat → Rat) (c : Rat) : ∀ n, c * sumQ f n = sumQ (fun i => c * f i) n
  | 0 => by simp [sumQ]
  | n + 1 => by simp only [sumQ]; rw [← mul_sumQ f c n]; grind
theorem sumQ_zero : ∀ n, sumQ (fun _ => 0) n = 0
  | 0 => rfl
  | n + 1 => by rw [sumQ, sumQ_zero n]; grind
theorem sumQ_comm (f : Nat → Nat → Rat) (m : Nat) : ∀ n, sumQ (fun i => sumQ (fun k => f i k) m) n = sumQ (fun k => sumQ (fun i => f i k) n) m
  | 0 => (sumQ_zero m).symm
  | n + 1 => by rw [sumQ, sumQ_comm f m n, ← sumQ_add]; rfl
theorem sumQ_nonneg {f : Nat → Rat} : ∀ {n}, (∀ i, i < n → 0 ≤ f i) → 0 ≤ sumQ f n
  | 0, _ => Rat.le_refl
  | n + 1, h => by
    have h1 := sumQ_nonneg (f := f) (n := n) (fun i hi => h i (by omega))
    have h2 := h n (by omega)
    rw [sumQ]; grind
theorem sumQ_le_of {f : Nat → Rat} : ∀ {n}, (∀ i, i < n → 0 ≤ f i) → ∀ {k}, k < n → f k ≤ sumQ f n
  | 0, _, k, hk => absurd hk (by omega)
  | n + 1, h, k, hk => by
    have h1 := sumQ_nonneg (f := f) (n := n) (fun i hi => h i (by omega))
    have h2 := h n (by omega)
    rw [sumQ]
    by_cases e : k = n
    · subst e; grind
    · have := sumQ_le_of (f := f) (n := n) (fun i hi => h i (by omega)) (k := k) (by omega)
      grind
theorem sumQ_le {f g : Nat → Rat} : ∀ {n}, (∀ i, i < n → f i ≤ g i) → sumQ f n ≤ sumQ g n
  | 0, _ => Rat.le_refl
  | n + 1, h => by
    have h1 := sumQ_le (f := f) (g := g) (n := n) (fun i hi => h i (by omega))
    have h2 := h n (by omega)
    rw [sumQ, sumQ]; grind
theorem sumQ_const (c : Rat) : ∀ n : Nat, sumQ (fun _ => c) n = (n : Rat) * c
  | 0 => by simp [sumQ]
  | n + 1 => by rw [sumQ, sumQ_const c n]; push_cast; grind
/-- one place alone -/
theorem sumQ_one {f : Nat → Rat} {k : Nat} : ∀ {n}, k < n → (∀ i, i < n → i ≠ k → f i = 0) → sumQ f n = f k
  | 0, hk, _ => absurd hk (by omega)
  | n + 1, hk, h => by
    rw [sumQ]
    by_cases e : k = n
    · subst e
      rw [sumQ_congr (g := fun _ => 0) (fun i hi => h i (by omega) (by omega)), sumQ_zero]; grind
    · rw [sumQ_one (by omega) (fun i hi hne => h i (by omega) hne), h n (by omega) (fun x => e x.symm)]; grind
theorem sq_nonneg (q : Rat) : 0 ≤ q * q := by
  rcases Rat.le_total (a := 0) (b := q) with h | h
  · exact Rat.mul_nonneg h h
  · have := Rat.mul_nonneg (a := -q) (b := -q) (by grind) (by grind)
    grind

/-! ### One row more: a sum of the rows -/
def extG (G : Nat → Nat → Rat) (n : Nat) (c : Nat → Rat) : Nat → Nat → Rat := fun x y =>
  if x = n then (if y = n then sumQ (fun i => sumQ (fun j => c i * c j * G i j) n) n else sumQ (fun i => c i * G i y) n)
  else if y = n then sumQ (fun j => c j * G x j) n else G x y
section
variable {G : Nat → Nat → Rat} {n : Nat} {c : Nat → Rat}
theorem ext_lo : ∀ l, l ≤ n → ∀ x y, x ≠ n → y ≠ n → gsE (extG G n c) l x y = gsE G l x y
  | 0, _, x, y, hx, hy => by show extG G n c x y = G x y; unfold extG; rw [if_neg hx, if_neg hy]
  | l + 1, hl, x, y, hx, hy => by
    have ih := ext_lo l (by omega)
    rw [gsE_succ, ih x y hx hy, ih x l hx (by omega), ih l y (by omega) hy, ih l l (by omega) (by omega), gsE_succ]
theorem ext_row : ∀ l, l ≤ n → ∀ y, y ≠ n → gsE (extG G n c) l n y = sumQ (fun i => c i * gsE G l i y) n
  | 0, _, y, hy => by show extG G n c n y = _; unfold extG; rw [if_pos rfl, if_neg hy]; rfl
  | l + 1, hl, y, hy => by
    have ih := ext_row l (by omega)
    rw [gsE_succ, ih y hy, ih l (by omega), ext_lo l (by omega) l y (by omega) hy, ext_lo l (by omega) l l (by omega) (by omega)]
    rw [Rat.div_def, Rat.mul_assoc, sumQ_mul, ← sumQ_sub]
    apply sumQ_congr
    intro i hi
    rw [gsE_succ]; grind
theorem ext_col : ∀ l, l ≤ n → ∀ x, x ≠ n → gsE (extG G n c) l x n = sumQ (fun j => c j * gsE G l x j) n
  | 0, _, x, hx => by show extG G n c x n = _; unfold extG; rw [if_neg hx, if_pos rfl]; rfl
  | l + 1, hl, x, hx => by
    have ih := ext_col l (by omega)
    rw [gsE_succ, ih x hx, ih l (by omega), ext_lo l (by omega) x l hx (by omega), ext_lo l (by omega) l l (by omega) (by omega)]
    rw [Rat.div_def, mul_sumQ, sumQ_mul, ← sumQ_sub]
    apply sumQ_congr
    intro j hj
    rw [gsE_succ]; grind
theorem ext_dia : ∀ l, l ≤ n → gsE (extG G n c) l n n = sumQ (fun i => sumQ (fun j => c i * c j * gsE G l i j) n) n
  | 0, _ => by show extG G n c n n = _; unfold extG; rw [if_pos rfl, if_pos rfl]; rfl
  | l + 1, hl => by
    have ih := ext_dia l (by omega)
    rw [gsE_succ, ih, ext_row l (by omega) l (by omega), ext_col l (by omega) l (by omega), ext_lo l (by omega) l l (by omega) (by omega)]
    rw [sumQ_mul, Rat.div_def, sumQ_mul, ← sumQ_sub]
    apply sumQ_congr
    intro i hi
    rw [mul_sumQ, sumQ_mul, ← sumQ_sub]
    apply sumQ_congr
    intro j hj
    rw [gsE_succ]; grind
/-- what is behind its own step is nought -/
theorem gsE_gone (hs : ∀ i j, G i j = G j i) (hn : ∀ l, l < n → gsE G l l l ≠ 0) : ∀ l, l ≤ n → ∀ i j, (i < l ∨ j < l) → gsE G l i j = 0
  | 0, _, i, j, h => absurd h (by omega)
  | l + 1, hl, i, j, h => by
    have ih := gsE_gone hs hn l (by omega)
    have h0 := hn l (by omega)
    rw [gsE_succ]
    by_cases hi : i < l
    · rw [ih i j (.inl hi), ih i l (.inl hi)]; grind
    · by_cases hj : j < l
      · rw [ih i j (.inr hj), ih l j (.inr hj)]; grind
      · by_cases e : i = l
        · subst e; grind
        · have e2 : j = l := by omega
          subst e2; grind
/-- Pythagoras -/
theorem pyth (hs : ∀ i j, G i j = G j i) (x : Nat) : ∀ l, gsE G 0 x x = gsE G l x x + sumQ (fun k => gsE G k x k * gsE G k x k / gsE G k k k) l
  | 0 => by rw [sumQ]; grind
  | l + 1 => by
    rw [pyth hs x l, gsE_succ G l, sumQ, gsE_sym hs l l x]; grind
theorem ext_sym (hs : ∀ i j, G i j = G j i) : ∀ i j, extG G n c i j = extG G n c j i := by
  intro i j
  unfold extG
  by_cases hi : i = n <;> by_cases hj : j = n <;> simp only [hi, hj, if_true, if_false]
  · apply sumQ_congr; intro k _; rw [hs]
  · apply sumQ_congr; intro k _; rw [hs]
  · exact hs i j
def qf (G : Nat → Nat → Rat) (n : Nat) (c : Nat → Rat) : Rat := sumQ (fun i => sumQ (fun j => c i * c j * G i j) n) n
def qy (G : Nat → Nat → Rat) (n : Nat) (c : Nat → Rat) (l : Nat) : Rat := sumQ (fun i => c i * gsE G l i l) n
/-- a form is a sum of squares -/
theorem qf_sum (hs : ∀ i j, G i j = G j i) (hn : ∀ l, l < n → gsE G l l l ≠ 0) : qf G n c = sumQ (fun l => qy G n c l * qy G n c l / gsE G l l l) n := by
  have h1 := pyth (ext_sym (n := n) (c := c) hs) n n
  have h2 : gsE (extG G n c) 0 n n = qf G n c := ext_dia 0 (Nat.zero_le _)
  have h3 : gsE (extG G n c) n n n = 0 := by
    rw [ext_dia n (Nat.le_refl _), sumQ_congr (g := fun _ => 0), sumQ_zero]
    intro i hi
    rw [sumQ_congr (g := fun _ => 0), sumQ_zero]
    intro j hj
    rw [gsE_gone hs hn n (Nat.le_refl _) i j (.inl hi)]; grind
  rw [h2, h3] at h1
  rw [h1, sumQ_congr (g := fun l => qy G n c l * qy G n c l / gsE G l l l)]
  · grind
  · intro l hl
    rw [ext_row l (by omega) l (by omega), ext_lo l (by omega) l l (by omega) (by omega)]; rfl
theorem qf_term (hs : ∀ i j, G i j = G j i) (hn : ∀ l, l < n → 0 < gsE G l l l) : (∀ l, l < n → 0 ≤ qy G n c l * qy G n c l / gsE G l l l) := fun l hl => by
  rw [Rat.div_def]
  exact Rat.mul_nonneg (sq_nonneg _) (Rat.le_of_lt (Rat.inv_pos.2 (hn l hl)))
theorem pos_ne {q : Rat} (h : 0 < q) : q ≠ 0 := fun e => by rw [e] at h; exact absurd h (by decide)
theorem qy_le (hs : ∀ i j, G i j = G j i) (hn : ∀ l, l < n → 0 < gsE G l l l) {l : Nat} (hl : l < n) : qy G n c l * qy G n c l ≤ qf G n c * gsE G l l l := by
  have h1 := sumQ_le_of (qf_term (c := c) hs hn) hl
  rw [← qf_sum hs (fun l hl => pos_ne (hn l hl))] at h1
  have h2 := Rat.mul_le_mul_of_nonneg_right h1 (Rat.le_of_lt (hn l hl))
  have h3 : qy G n c l * qy G n c l / gsE G l l l * gsE G l l l = qy G n c l * qy G n c l := by
    have := pos_ne (hn l hl); grind
  rwa [h3] at h2
end
end Fw


/- Plain facts: what stays and what falls when a form is reduced; how great its numbers can be. -/
set_option linter.unusedVariables false
set_option linter.unusedSimpArgs false
set_option exponentiation.threshold 400
namespace Fw
open Go

theorem qG_sy {G : Fi} (hs : SymG G) : ∀ i j, qG G i j = qG G j i := fun i j => by unfold qG; rw [hs i j]
section
variable {G : Fi} {n : Nat}
theorem frS_p (hs : SymG G) (hp : PosU G n) {l} (hl : l < n) : 0 < frS G l := piv_pos hs hp hl
theorem frM_mul (hs : SymG G) (hp : PosU G n) {x l} (hl : l < n) : frM G x l * frS G l = gsE (qG G) l x l := by
  have := piv_ne hs hp hl
  unfold frM frS; grind
/-- Pythagoras, by coefficients -/
theorem norm_sum (hs : SymG G) (hp : PosU G n) (x : Nat) : ∀ l, l ≤ n → (G x x : Rat) = gsE (qG G) l x x + sumQ (fun k => frM G x k * frM G x k * frS G k) l := fun l hl => by
  have h := pyth (qG_sy hs) x l
  have e : gsE (qG G) 0 x x = (G x x : Rat) := rfl
  rw [e] at h
  rw [h]
  congr 1
  apply sumQ_congr
  intro k hk
  have h0 := piv_ne hs hp (show k < n by omega)
  unfold frM frS; grind
theorem term_nonneg (hs : SymG G) (hp : PosU G n) (x : Nat) {k} (hk : k < n) : 0 ≤ frM G x k * frM G x k * frS G k := Rat.mul_nonneg (sq_nonneg _) (Rat.le_of_lt (frS_p hs hp hk))
theorem frS_le (hs : SymG G) (hp : PosU G n) {x} (hx : x < n) : frS G x ≤ (G x x : Rat) := by
  have h1 := norm_sum hs hp x x (by omega)
  have h2 := sumQ_nonneg (f := fun k => frM G x k * frM G x k * frS G k) (n := x) (fun k hk => term_nonneg hs hp x (by omega))
  unfold frS; grind
theorem dia_pos (hs : SymG G) (hp : PosU G n) {x} (hx : x < n) : 0 < G x x := by
  have h1 := frS_le hs hp hx
  have h2 := frS_p hs hp hx
  have h3 : (0 : Rat) < (G x x : Rat) := by grind
  exact_mod_cast h3
theorem term_le (hs : SymG G) (hp : PosU G n) {x l} (hl : l < x) (hx : x < n) : frM G x l * frM G x l * frS G l ≤ (G x x : Rat) := by
  have h1 := norm_sum hs hp x x (by omega)
  have h2 := sumQ_le_of (f := fun k => frM G x k * frM G x k * frS G k) (n := x) (fun k hk => term_nonneg hs hp x (by omega)) hl
  have h3 := frS_p hs hp hx
  unfold frS at h3
  grind
theorem uD_succ (hs : SymG G) (hp : PosU G n) {l} (hl : l < n) : (uD G (l + 1) : Rat) = (uD G l : Rat) * frS G l := by
  rw [uD_q hs (hp.le (show l + 1 ≤ n by omega)), uD_q hs (hp.le (show l ≤ n by omega))]; rfl
theorem uE_fr (hs : SymG G) (hp : PosU G n) {x l} (hl : l < x) (hx : x < n) : (uE G l x l : Rat) = (uD G (l + 1) : Rat) * frM G x l := by
  rw [uE_q hs (hp.le (show l ≤ n by omega)) (show l ≤ x by omega) (Nat.le_refl l), uD_succ hs hp (show l < n by omega), uD_q hs (hp.le (show l ≤ n by omega)), Rat.mul_assoc, Rat.mul_comm (frS G l), frM_mul hs hp (show l < n by omega)]
/-- L2 -/
theorem uE_sq (hs : SymG G) (hp : PosU G n) {x l} (hl : l < x) (hx : x < n) : uE G l x l * uE G l x l ≤ uD G l * uD G (l + 1) * G x x := by
  have h1 := term_le hs hp hl hx
  have d0 : (0 : Rat) ≤ (uD G l : Rat) := by have := hp.uD (show l ≤ n by omega); exact_mod_cast Int.le_of_lt this
  have d1 : (0 : Rat) ≤ (uD G (l + 1) : Rat) := by have := hp.uD (show l + 1 ≤ n by omega); exact_mod_cast Int.le_of_lt this
  have h2 := Rat.mul_le_mul_of_nonneg_left h1 (Rat.mul_nonneg d0 d1)
  have e1 := uE_fr hs hp hl hx
  have e2 := uD_succ hs hp (show l < n by omega)
  have h3 : ((uE G l x l * uE G l x l : Int) : Rat) ≤ ((uD G l * uD G (l + 1) * G x x : Int) : Rat) := by
    rw [Rat.intCast_mul, Rat.intCast_mul, Rat.intCast_mul, e1]
    have : (uD G (l + 1) : Rat) * frM G x l * ((uD G (l + 1) : Rat) * frM G x l) = (uD G l : Rat) * (uD G (l + 1) : Rat) * (frM G x l * frM G x l * frS G l) := by
      rw [e2]; grind
    rw [this]; exact h2
  exact_mod_cast h3
/-- two rows -/
theorem row_dia (hs : SymG G) (hp : PosU G n) {k j} (hj : j < k) (hk : k < n) (t : Int) : 0 < G k k + t * G k j + t * G k j + t * t * G j j := by
  have h := dia_pos (rowI_sym (i := k) (j := j) (q := t) hs) (rowI_pos hs hp hj) hk
  unfold rowI at h
  simp only [if_true] at h
  rw [hs j k] at h
  omega
end
theorem rowI_dia (G : Fi) (hs : SymG G) (k j : Nat) (q : Int) : rowI G k j q k k = G k k + q * G k j + q * G k j + q * q * G j j := by
  unfold rowI; simp only [if_true]; rw [hs j k]
theorem rowI_dia_ne (G : Fi) (k j : Nat) (q : Int) {x} (hx : x ≠ k) : rowI G k j q x x = G x x := by
  unfold rowI; simp [hx]
theorem Sz.sq {n : Nat} {z w : Int} (h : Sz n w) (hz : z * z ≤ w) : Sz n z := by
  refine h.le ?_
  have h1 : z.natAbs ≤ (z * z).natAbs := by
    rw [Int.natAbs_mul]
    by_cases e : z.natAbs = 0
    · omega
    · exact Nat.le_mul_of_pos_left _ (by omega)
  have h2 : (z * z).natAbs ≤ w.natAbs := by
    have h0 : 0 ≤ z * z := by
      rcases Int.le_total 0 z with h | h
      · exact Int.mul_nonneg h h
      · exact Int.mul_nonneg_of_nonpos_of_nonpos h h
    omega
  omega
/-! ### Nearest whole numbers -/
theorem near_spec (q : Rat) : (nearQ q : Rat) ≤ q + 1 / 2 ∧ q + 1 / 2 < (nearQ q : Rat) + 1 := by
  have hd := rq_den_pos q
  have hdq : (0 : Rat) < ((rq q).2 : Rat) := by exact_mod_cast hd
  have hne : ((rq q).2 : Rat) ≠ 0 := pos_ne hdq
  have e := rq_val q
  have ea : ((rq q).1 : Rat) = q * ((rq q).2 : Rat) := by rw [← e]; grind
  have hdef := Int.fmod_def ((rq q).1 + (rq q).1 + (rq q).2) ((rq q).2 + (rq q).2)
  have f1 := Int.fmod_nonneg_of_pos ((rq q).1 + (rq q).1 + (rq q).2) (show 0 < (rq q).2 + (rq q).2 by omega)
  have f2 := Int.fmod_lt_of_pos ((rq q).1 + (rq q).1 + (rq q).2) (show 0 < (rq q).2 + (rq q).2 by omega)
  have hz : ((rq q).1 + (rq q).1 + (rq q).2).fdiv ((rq q).2 + (rq q).2) = nearQ q := rfl
  rw [hz] at hdef
  generalize nearQ q = z at *
  generalize (rq q).1 = a at *
  generalize (rq q).2 = d at *
  have g1 : (d + d) * z ≤ a + a + d := by omega
  have g2 : a + a + d < (d + d) * z + (d + d) := by omega
  have q1 : (((d + d) * z : Int) : Rat) ≤ ((a + a + d : Int) : Rat) := by exact_mod_cast g1
  have q2 : ((a + a + d : Int) : Rat) < (((d + d) * z + (d + d) : Int) : Rat) := by exact_mod_cast g2
  rw [Rat.intCast_mul, Rat.intCast_add, Rat.intCast_add, Rat.intCast_add, ea] at q1
  rw [Rat.intCast_add, Rat.intCast_add, Rat.intCast_add, Rat.intCast_mul, Rat.intCast_add, ea] at q2
  have hh : (0 : Rat) < (d : Rat) + (d : Rat) := by grind
  constructor
  · rcases Rat.le_total (a := (z : Rat)) (b := q + 1 / 2) with h | h
    · exact h
    · by_cases e2 : (z : Rat) = q + 1 / 2
      · rw [e2]; exact Rat.le_refl
      · have h3 : 0 < (z : Rat) - (q + 1 / 2) := by grind
        have := Rat.mul_pos hh h3
        grind
  · by_cases h : q + 1 / 2 < (z : Rat) + 1
    · exact h
    · replace h := Rat.not_lt.mp h
      have h3 : 0 ≤ q + 1 / 2 - ((z : Rat) + 1) := by grind
      have := Rat.mul_nonneg (Rat.le_of_lt hh) h3
      grind
/-- a coefficient that is at most a half -/
def half (q : Rat) : Prop := -1 ≤ q + q ∧ q + q ≤ 1
theorem near_half (q : Rat) : half (q - (nearQ q : Rat)) := by
  obtain ⟨h1, h2⟩ := near_spec q
  constructor <;> grind
theorem near_zero {q : Rat} (h : nearQ q = 0) : half q := by
  have := near_half q
  rw [h] at this
  have e : q - ((0 : Int) : Rat) = q := by simp; grind
  rwa [e] at this
theorem half_sq {q : Rat} (h : half q) : q * q ≤ 1 / 4 := by
  obtain ⟨h1, h2⟩ := h
  have := Rat.mul_nonneg (a := 1 - (q + q)) (b := 1 + (q + q)) (by grind) (by grind)
  grind
/-- z z ≤ 4 q q -/
theorem near_sq (q : Rat) : (nearQ q : Rat) * (nearQ q : Rat) ≤ 4 * (q * q) := by
  by_cases h0 : nearQ q = 0
  · rw [h0]
    have := sq_nonneg q
    simp; grind
  · obtain ⟨h1, h2⟩ := near_spec q
    rcases Int.lt_or_gt_of_ne h0 with h | h
    · have h3 : (nearQ q : Rat) ≤ -1 := by
        have h3 : (nearQ q : Rat) ≤ ((-1 : Int) : Rat) := Rat.intCast_le_intCast.mpr (by omega)
        exact h3
      have := Rat.mul_nonneg (a := (nearQ q : Rat) - 2 * q) (b := -(nearQ q : Rat) - 2 * q) (by grind) (by grind)
      grind
    · have h3 : (1 : Rat) ≤ (nearQ q : Rat) := by
        have : 1 ≤ nearQ q := by omega
        exact_mod_cast this
      have := Rat.mul_nonneg (a := 2 * q - (nearQ q : Rat)) (b := 2 * q + (nearQ q : Rat)) (by grind) (by grind)
      grind
section
variable {G : Fi} {n : Nat}
theorem near_uE (hs : SymG G) (hp : PosU G n) {k j} (hj : j < k) (hk : k < n) : nearQ (frM G k j) * nearQ (frM G k j) ≤ 4 * (uD G j * G k k) := by
  have h1 := near_sq (frM G k j)
  have h2 := term_le hs hp hj hk
  have d0 : (0 : Rat) < (uD G j : Rat) := by have := hp.uD (show j ≤ n by omega); exact_mod_cast this
  have e2 := uD_succ hs hp (show j < n by omega)
  have d1 : (1 : Rat) ≤ (uD G (j + 1) : Rat) := by have := hp.uD (show j + 1 ≤ n by omega); exact_mod_cast (show (1 : Int) ≤ uD G (j + 1) by omega)
  have h3 := Rat.mul_le_mul_of_nonneg_left h2 (Rat.le_of_lt d0)
  have h4 : frM G k j * frM G k j ≤ (uD G j : Rat) * (frM G k j * frM G k j * frS G j) := by
    have e : (uD G j : Rat) * (frM G k j * frM G k j * frS G j) = frM G k j * frM G k j * (uD G (j + 1) : Rat) := by rw [e2]; grind
    rw [e]
    have := Rat.mul_le_mul_of_nonneg_left d1 (sq_nonneg (frM G k j))
    grind
  have h5 : ((nearQ (frM G k j) * nearQ (frM G k j) : Int) : Rat) ≤ ((4 * (uD G j * G k k) : Int) : Rat) := by
    rw [Rat.intCast_mul, Rat.intCast_mul, Rat.intCast_mul]
    have : (4 : Rat) * (frM G k j * frM G k j) ≤ 4 * ((uD G j : Rat) * (G k k : Rat)) := by grind
    have e4 : ((4 : Int) : Rat) = 4 := rfl
    rw [e4]
    exact Rat.le_trans h1 this
  exact_mod_cast h5
/-- the row that is reduced grows by so much at most -/
theorem grow_dia (hs : SymG G) (hp : PosU G n) {k j} (hj : j < k) (hk : k < n) (q : Int) : rowI G k j q k k ≤ 2 * G k k + 2 * (q * q * G j j) := by
  have h := row_dia hs hp hj hk (-q)
  rw [rowI_dia G hs]
  have e1 : -q * G k j = -(q * G k j) := Int.neg_mul _ _
  have e2 : -q * -q * G j j = q * q * G j j := by rw [Int.neg_mul_neg]
  rw [e1, e2] at h
  omega
/-- rows whose coefficients are at most a half are short -/
theorem short_row (hs : SymG G) (hp : PosU G n) {M : Rat} (hM : ∀ l, l < n → frS G l ≤ M) {x} (hx : x < n) (hn : n ≤ 12) (hh : ∀ l, l < x → half (frM G x l)) : (G x x : Rat) ≤ 4 * M := by
  have h1 := norm_sum hs hp x x (by omega)
  have hM0 : 0 ≤ M := Rat.le_trans (Rat.le_of_lt (frS_p hs hp hx)) (hM x hx)
  have h2 : sumQ (fun k => frM G x k * frM G x k * frS G k) x ≤ sumQ (fun _ => 1 / 4 * M) x := sumQ_le fun k hk => by
    have a1 := half_sq (hh k hk)
    have a2 := Rat.mul_le_mul_of_nonneg_right a1 (Rat.le_of_lt (frS_p hs hp (show k < n by omega)))
    have a3 := Rat.mul_le_mul_of_nonneg_left (hM k (by omega)) (show (0 : Rat) ≤ 1 / 4 by grind)
    exact Rat.le_trans a2 a3
  rw [sumQ_const] at h2
  have h3 : ((x : Nat) : Rat) ≤ 12 := by exact_mod_cast (show x ≤ 12 by omega)
  have h4 := Rat.mul_le_mul_of_nonneg_right h3 (show 0 ≤ 1 / 4 * M by have := Rat.mul_nonneg (show (0 : Rat) ≤ 1 / 4 by grind) hM0; exact this)
  have h5 : gsE (qG G) x x x ≤ M := hM x hx
  grind
end
end Fw


/- Plain facts: the reduction of a form, step by step: what holds in front of each. -/
set_option linter.unusedVariables false
set_option linter.unusedSimpArgs false
set_option exponentiation.threshold 400
namespace Fw
open Go

/-- the step of x does -/
def lov (G : Fi) (x : Nat) : Prop := (3 / 4 : Rat) * frS G (x - 1) ≤ frS G x + frM G x (x - 1) * frM G x (x - 1) * frS G (x - 1)
section
variable {G : Fi} {n : Nat}
theorem frS_row (hs : SymG G) (hp : PosU G n) {k j : Nat} (hj : j < k) (t : Int) {l : Nat} (hl : l < n) : frS (rowI G k j t) l = frS G l := by
  unfold frS; rw [qG_row]; exact gsE_row_piv hj l fun i hi => piv_ne hs hp (by omega)
theorem frM_row_hi (hs : SymG G) (hp : PosU G n) {k j : Nat} (hj : j < k) (t : Int) {x l : Nat} (hjl : j < l) (hl : l < n) : frM (rowI G k j t) x l = frM G x l := by
  unfold frM; rw [qG_row, gsE_row_hi hj l hjl (fun i hi => piv_ne hs hp (by omega)), gsE_row_hi hj l hjl (fun i hi => piv_ne hs hp (by omega))]
theorem frM_row_ne (hs : SymG G) (hp : PosU G n) {k j : Nat} (hj : j < k) (t : Int) {x l : Nat} (hx : x ≠ k) (hl : l < n) : frM (rowI G k j t) x l = frM G x l := by
  by_cases h : j < l
  · exact frM_row_hi hs hp hj t h hl
  · unfold frM
    rw [qG_row, gsE_row_piv hj l fun i hi => piv_ne hs hp (by omega), gsE_row hj l (by omega) (fun i hi => piv_ne hs hp (by omega)), cI_ne hx, cI_ne (show l ≠ k by omega)]
    congr 1; grind
theorem frM_row_at (hs : SymG G) (hp : PosU G n) {k j : Nat} (hj : j < k) (t : Int) (hn : j < n) : frM (rowI G k j t) k j = frM G k j + (t : Rat) := by
  have h0 := piv_ne hs hp hn
  unfold frM
  rw [qG_row, gsE_row_piv hj j fun i hi => piv_ne hs hp (by omega), gsE_row hj j (by omega) (fun i hi => piv_ne hs hp (by omega)), cI_eq, cI_ne (show j ≠ k by omega)]
  grind
end
/-- what holds all along -/
structure LC (G0 : Fi) (n : Nat) (M Dm : Int) (G : Fi) : Prop where
  s : SymG G
  p : PosU G n
  d : ∀ l, l ≤ n → uD G l ≤ Dm
  t : uD G n = uD G0 n
  m : ∀ l, l < n → frS G l ≤ (M : Rat)
/-- rows below a are reduced, steps below b do -/
structure LL (G0 : Fi) (n : Nat) (M Dm : Int) (G : Fi) (a b : Nat) : Prop where
  c : LC G0 n M Dm G
  z : ∀ x, x < n → G x x ≤ 4 * M
  h : ∀ x, x < a → ∀ l, l < x → half (frM G x l)
  v : ∀ x, 0 < x → x < b → lov G x
/-- row k is being reduced, from j on it is -/
structure LR (G0 : Fi) (n : Nat) (M Dm : Int) (G : Fi) (k j : Nat) : Prop where
  c : LC G0 n M Dm G
  z : ∀ x, x < n → x ≠ k → G x x ≤ 4 * M
  zk : G k k ≤ 4 * M * (2 + 32 * Dm * M) ^ (k - j)
  h : ∀ x, x < k → ∀ l, l < x → half (frM G x l)
  v : ∀ x, 0 < x → x < k → lov G x
  hk : ∀ l, j ≤ l → l < k → half (frM G k l)
section
variable {G0 G : Fi} {n : Nat} {M Dm : Int}
theorem LC.d1 (h : LC G0 n M Dm G) : 1 ≤ Dm := h.d 0 (Nat.zero_le _)
theorem LC.m1 (h : LC G0 n M Dm G) (h0 : 0 < n) : 0 < M := by
  have h1 := frS_p h.s h.p h0
  have h2 := h.m 0 h0
  have h3 : ((0 : Int) : Rat) < (M : Rat) := by have e : ((0 : Int) : Rat) = 0 := rfl; rw [e]; grind
  exact Rat.intCast_lt_intCast.mp h3
theorem LC.k1 (h : LC G0 n M Dm G) (h0 : 0 < n) : 1 ≤ 2 + 32 * Dm * M := by
  have := Int.mul_pos (show 0 < Dm by have := h.d1; omega) (h.m1 h0)
  rw [Int.mul_assoc]; omega
theorem LL.start {k : Nat} (h : LL G0 n M Dm G k k) (hk : k < n) : LR G0 n M Dm G k k :=
  ⟨h.c, fun x hx _ => h.z x hx, by rw [Nat.sub_self, Int.pow_zero, Int.mul_one]; exact h.z k hk, h.h, h.v, fun l h1 h2 => absurd h1 (by omega)⟩
theorem LR.grow {k j : Nat} (h : LR G0 n M Dm G k (j + 1)) (hj : j < k) (hk : k < n) : 0 < G k k ∧ G k k * (2 + 32 * Dm * M) ≤ 4 * M * (2 + 32 * Dm * M) ^ (k - j) := by
  refine ⟨dia_pos h.c.s h.c.p hk, ?_⟩
  have h1 := h.c.k1 (by omega)
  have h2 := Int.mul_le_mul_of_nonneg_right h.zk (show 0 ≤ 2 + 32 * Dm * M by omega)
  rw [show k - j = (k - (j + 1)) + 1 by omega, Int.pow_succ, ← Int.mul_assoc]
  exact h2
theorem LR.zero {k j : Nat} (h : LR G0 n M Dm G k (j + 1)) (hj : j < k) (hk : k < n) (hz : nearQ (frM G k j) = 0) : LR G0 n M Dm G k j := by
  obtain ⟨g0, g1⟩ := h.grow hj hk
  refine ⟨h.c, h.z, ?_, h.h, h.v, fun l h1 h2 => ?_⟩
  · have h1 := h.c.k1 (by omega)
    have h2 := Int.mul_le_mul_of_nonneg_left h1 (Int.le_of_lt g0)
    omega
  · by_cases e : l = j
    · subst e; exact near_zero hz
    · exact h.hk l (by omega) h2
theorem LR.step {k j : Nat} (h : LR G0 n M Dm G k (j + 1)) (hj : j < k) (hk : k < n) : LR G0 n M Dm (rowI G k j (-(nearQ (frM G k j)))) k j := by
  obtain ⟨g0, g1⟩ := h.grow hj hk
  have hs := h.c.s
  have hp := h.c.p
  have hq := near_uE hs hp hj hk
  refine ⟨⟨rowI_sym hs, rowI_pos hs hp hj, fun l hl => by rw [rowI_uD hs hp hj hl]; exact h.c.d l hl, by rw [rowI_uD hs hp hj (Nat.le_refl n)]; exact h.c.t, fun l hl => by rw [frS_row hs hp hj _ hl]; exact h.c.m l hl⟩, fun x hx hxk => by rw [rowI_dia_ne _ _ _ _ hxk]; exact h.z x hx hxk, ?_, fun x hx l hl => by rw [frM_row_ne hs hp hj _ (by omega) (by omega)]; exact h.h x hx l hl, fun x h1 h2 => by unfold lov; rw [frM_row_ne hs hp hj _ (by omega) (by omega), frS_row hs hp hj _ (by omega), frS_row hs hp hj _ (by omega)]; exact h.v x h1 h2, fun l h1 h2 => ?_⟩
  · have e := grow_dia hs hp hj hk (-(nearQ (frM G k j)))
    rw [Int.neg_mul_neg] at e
    have d1 := h.c.d j (by omega)
    have d0 := h.c.p.uD (show j ≤ n by omega)
    have j1 := h.z j (by omega) (by omega)
    have j0 := dia_pos hs hp (show j < n by omega)
    have m0 := h.c.m1 (by omega)
    generalize nearQ (frM G k j) = q at *
    have a1 : uD G j * G k k ≤ Dm * G k k := Int.mul_le_mul_of_nonneg_right d1 (Int.le_of_lt g0)
    have a2 : q * q ≤ 4 * (Dm * G k k) := by omega
    have a3 : q * q * G j j ≤ 4 * (Dm * G k k) * (4 * M) := Int.mul_le_mul a2 j1 (Int.le_of_lt j0) (by have := Int.mul_pos (show 0 < Dm by omega) g0; omega)
    have a4 : G k k * (2 + 32 * Dm * M) = 2 * G k k + 2 * (4 * (Dm * G k k) * (4 * M)) := by grind
    omega
  · by_cases e : l = j
    · subst e
      rw [frM_row_at hs hp hj _ (by omega), Rat.intCast_neg]
      have := near_half (frM G k l)
      rwa [Rat.sub_eq_add_neg] at this
    · rw [frM_row_hi hs hp hj _ (by omega) (by omega)]; exact h.hk l (by omega) h2
theorem LR.fin {k : Nat} (h : LR G0 n M Dm G k 0) (hk : k < n) (h12 : n ≤ 12) : LL G0 n M Dm G (k + 1) k := by
  have hh : ∀ x, x < k + 1 → ∀ l, l < x → half (frM G x l) := fun x hx l hl => by
    by_cases e : x = k
    · subst e; exact h.hk l (Nat.zero_le _) hl
    · exact h.h x (by omega) l hl
  refine ⟨h.c, fun x hx => ?_, hh, h.v⟩
  by_cases e : x = k
  · subst e
    have h1 := short_row h.c.s h.c.p h.c.m hx h12 (hh x (by omega))
    have h2 : ((G x x : Int) : Rat) ≤ ((4 * M : Int) : Rat) := by rw [Rat.intCast_mul]; exact h1
    exact Rat.intCast_le_intCast.mp h2
  · exact h.z x hx e
theorem LL.yes {k : Nat} (h : LL G0 n M Dm G (k + 1) k) (hl : lov G k) : LL G0 n M Dm G (k + 1) (k + 1) :=
  ⟨h.c, h.z, h.h, fun x h1 h2 => by
    by_cases e : x = k
    · subst e; exact hl
    · exact h.v x h1 (by omega)⟩
theorem LL.one (h : LL G0 n M Dm G 0 0) : LL G0 n M Dm G 1 1 := ⟨h.c, h.z, fun x hx l hl => absurd hl (by omega), fun x h1 h2 => absurd h1 (by omega)⟩
/-- the two stars behind an exchange -/
theorem swp_frS (hs : SymG G) (hp : PosU G n) {p : Nat} (h : p + 1 < n) : frS (swpI G p) p = frS G (p + 1) + frM G (p + 1) p * frM G (p + 1) p * frS G p ∧ frS (swpI G p) (p + 1) * frS (swpI G p) p = frS G p * frS G (p + 1) := by
  have h0 := piv_ne hs hp (show p < n by omega)
  have e1 : frS (swpI G p) p = gsE (qG G) p (p + 1) (p + 1) := by
    unfold frS; rw [qG_swp, gsE_swp_lo p (Nat.le_refl p), sg_p]
  have e2 : gsE (qG G) (p + 1) (p + 1) (p + 1) = gsE (qG G) p (p + 1) (p + 1) - gsE (qG G) p (p + 1) p * gsE (qG G) p p (p + 1) / gsE (qG G) p p p := gsE_succ _ _ _ _
  have e3 : gsE (qG G) p p (p + 1) = gsE (qG G) p (p + 1) p := gsE_sym (qG_sy hs) p _ _
  have c0 := (swp_c hs hp h).1
  have e4 : frS (swpI G p) (p + 1) = gsE (qG G) p p p - gsE (qG G) p p (p + 1) * gsE (qG G) p (p + 1) p / gsE (qG G) p (p + 1) (p + 1) := by
    unfold frS; rw [qG_swp, gsE_swp_1, sg_q]
  have c1 : gsE (qG G) p (p + 1) (p + 1) ≠ 0 := pos_ne c0
  rw [e3] at e2 e4
  constructor
  · rw [e1]; unfold frM frS; rw [e2]; grind
  · rw [e1, e4]; unfold frS; rw [e2]; grind
theorem uD_swp_lt (hs : SymG G) (hp : PosU G n) {p : Nat} (h : p + 1 < n) (hl : ¬ lov G (p + 1)) : frS (swpI G p) p < frS G p ∧ uD (swpI G p) (p + 1) < uD G (p + 1) := by
  have e := (swp_frS hs hp h).1
  have s0 := frS_p hs hp (show p < n by omega)
  have hn : frS (swpI G p) p < frS G p := by
    have hl2 := hl
    unfold lov at hl2
    rw [show p + 1 - 1 = p by omega] at hl2
    have := Rat.not_le.mp hl2
    grind
  refine ⟨hn, ?_⟩
  have h2 := swpI_pos hs hp h
  have u1 := uD_succ (swpI_sym (p := p) hs) h2 (show p < n by omega)
  have u2 := uD_succ hs hp (show p < n by omega)
  rw [swpI_uD hs hp h (show p ≤ n by omega) (by omega)] at u1
  have d0 : (0 : Rat) < (uD G p : Rat) := by have := hp.uD (show p ≤ n by omega); exact_mod_cast this
  have h3 : ((uD (swpI G p) (p + 1) : Int) : Rat) < ((uD G (p + 1) : Int) : Rat) := by
    rw [u1, u2]
    exact Rat.mul_lt_mul_of_pos_left hn d0
  exact Rat.intCast_lt_intCast.mp h3
theorem frS_swp_ne (hs : SymG G) (hp : PosU G n) {p : Nat} (h : p + 1 < n) {l : Nat} (hl : l < n) (h1 : l ≠ p) (h2 : l ≠ p + 1) : frS (swpI G p) l = frS G l := by
  unfold frS
  rw [qG_swp]
  by_cases e : l ≤ p
  · rw [gsE_swp_lo l e, sg_ne h1 h2]
  · exact gsE_swp_hi (qG_sy hs) (piv_ne hs hp (show p < n by omega)) (pos_ne (swp_c hs hp h).1) (piv_ne hs hp h) l (by omega) l l (Nat.le_refl l) (Nat.le_refl l)
theorem frM_swp_lo (hs : SymG G) (hp : PosU G n) {p : Nat} (h : p + 1 < n) {x l : Nat} (hx : x < p) (hl : l < x) : frM (swpI G p) x l = frM G x l := by
  unfold frM
  rw [qG_swp, gsE_swp_lo l (by omega), gsE_swp_lo l (by omega), sg_ne (show x ≠ p by omega) (by omega), sg_ne (show l ≠ p by omega) (by omega)]
theorem LL.no {p : Nat} (h : LL G0 n M Dm G (p + 2) (p + 1)) (hp1 : p + 1 < n) (hl : ¬ lov G (p + 1)) : LL G0 n M Dm (swpI G p) p p := by
  have hs := h.c.s
  have hp := h.c.p
  obtain ⟨s1, s2⟩ := uD_swp_lt hs hp hp1 hl
  obtain ⟨e1, e2⟩ := swp_frS hs hp hp1
  have hp2 := swpI_pos hs hp hp1
  have f0 := frS_p hs hp (show p < n by omega)
  have f1 := frS_p hs hp hp1
  have g0 := frS_p (swpI_sym (p := p) hs) hp2 (show p < n by omega)
  refine ⟨⟨swpI_sym hs, hp2, fun l hl2 => ?_, ?_, fun l hl2 => ?_⟩, fun x hx => ?_, fun x hx l hl2 => ?_, fun x h1 h2 => ?_⟩
  · by_cases e : l = p + 1
    · subst e; have := h.c.d (p + 1) hl2; omega
    · rw [swpI_uD hs hp hp1 hl2 e]; exact h.c.d l hl2
  · by_cases e : n = p + 1
    · omega
    · rw [swpI_uD hs hp hp1 (Nat.le_refl n) (by omega)]; exact h.c.t
  · by_cases e : l = p
    · subst e; have := h.c.m l hl2; grind
    · by_cases e3 : l = p + 1
      · subst e3
        have a1 := h.c.m p (by omega)
        have a2 : frS G (p + 1) ≤ frS (swpI G p) p := by
          have := Rat.mul_nonneg (sq_nonneg (frM G (p + 1) p)) (Rat.le_of_lt f0)
          grind
        have a3 := Rat.mul_le_mul_of_nonneg_left a2 (Rat.le_of_lt f0)
        have a4 : frS (swpI G p) (p + 1) ≤ frS G p := by
          by_cases c : frS (swpI G p) (p + 1) ≤ frS G p
          · exact c
          · have c2 := Rat.mul_lt_mul_of_pos_right (Rat.not_le.mp c) g0
            grind
        exact Rat.le_trans a4 a1
      · rw [frS_swp_ne hs hp hp1 hl2 e e3]; exact h.c.m l hl2
  · show G (sg p x) (sg p x) ≤ 4 * M
    refine h.z _ ?_
    unfold sg; split
    · omega
    · split <;> omega
  · rw [frM_swp_lo hs hp hp1 hx hl2]; exact h.h x (by omega) l hl2
  · have := h.v x h1 (by omega)
    unfold lov at this ⊢
    rw [frM_swp_lo hs hp hp1 h2 (by omega), frS_swp_ne hs hp hp1 (show x < n by omega) (by omega) (by omega), frS_swp_ne hs hp hp1 (show x - 1 < n by omega) (by omega) (by omega)]
    exact this
/-- what falls -/
def sumD (G : Fi) (n : Nat) : Nat := (sumN (fun l => uD G l) n).toNat
theorem sumN_le {f g : Nat → Int} : ∀ {n}, (∀ i, i < n → f i ≤ g i) → sumN f n ≤ sumN g n
  | 0, _ => Int.le_refl _
  | n + 1, h => by
    have h1 := sumN_le (n := n) (fun i hi => h i (by omega))
    have h2 := h n (by omega)
    show sumN f n + f n ≤ sumN g n + g n
    omega
theorem sumN_lt {f g : Nat → Int} {k : Nat} : ∀ {n}, (∀ i, i < n → f i ≤ g i) → k < n → f k < g k → sumN f n < sumN g n
  | 0, _, hk, _ => absurd hk (by omega)
  | n + 1, h, hk, hl => by
    show sumN f n + f n < sumN g n + g n
    by_cases e : k = n
    · subst e
      have h1 := sumN_le (n := k) (fun i hi => h i (by omega))
      omega
    · have h1 := sumN_lt (n := n) (fun i hi => h i (by omega)) (by omega) hl
      have h2 := h n (by omega)
      omega
theorem sumN_nonneg {f : Nat → Int} : ∀ {n}, (∀ i, i < n → 0 ≤ f i) → 0 ≤ sumN f n
  | 0, _ => Int.le_refl _
  | n + 1, h => by
    have h1 := sumN_nonneg (n := n) (fun i hi => h i (by omega))
    have h2 := h n (by omega)
    show 0 ≤ sumN f n + f n
    omega
theorem sumD_row (hs : SymG G) (hp : PosU G n) {k j : Nat} (hj : j < k) (t : Int) : sumD (rowI G k j t) n = sumD G n := by
  unfold sumD; rw [sumN_congr fun l hl => rowI_uD hs hp hj (Nat.le_of_lt hl)]
theorem sumD_swp (hs : SymG G) (hp : PosU G n) {p : Nat} (h : p + 1 < n) (hl : ¬ lov G (p + 1)) : sumD (swpI G p) n < sumD G n := by
  have h2 := (uD_swp_lt hs hp h hl).2
  have hp2 := swpI_pos hs hp h
  have a := sumN_lt (f := fun l => uD (swpI G p) l) (g := fun l => uD G l) (n := n) (k := p + 1) (fun l hl2 => by
    by_cases e : l = p + 1
    · subst e; omega
    · rw [swpI_uD hs hp h (Nat.le_of_lt hl2) e]; exact Int.le_refl _) h h2
  have b := sumN_nonneg (f := fun l => uD (swpI G p) l) (n := n) (fun l hl2 => by have := hp2.uD (show l ≤ n by omega); omega)
  unfold sumD
  omega
end
end Fw


/- Plain facts: how great coefficients of short rows can be; Hermite's bound; the form of a change. -/
set_option linter.unusedVariables false
set_option linter.unusedSimpArgs false
set_option exponentiation.threshold 400
namespace Fw
open Go

/-! ### Bounds on both sides -/
structure wi (q b : Rat) : Prop where
  lo : -b ≤ q
  hi : q ≤ b
theorem wi_add {q b r c : Rat} (h : wi q b) (h2 : wi r c) : wi (q + r) (b + c) := by
  have h1 := h.lo; have h3 := h.hi; have h4 := h2.lo; have h5 := h2.hi; constructor <;> grind
theorem wi_sub {q b r c : Rat} (h : wi q b) (h2 : wi r c) : wi (q - r) (b + c) := by
  have h1 := h.lo; have h3 := h.hi; have h4 := h2.lo; have h5 := h2.hi; constructor <;> grind
theorem wi_le {q b c : Rat} (h : wi q b) (h2 : b ≤ c) : wi q c := by
  have h1 := h.lo; have h3 := h.hi; constructor <;> grind
theorem wi_mul {q b r c : Rat} (h : wi q b) (h2 : wi r c) : wi (q * r) (b * c) := by
  have h1 := h.lo; have h3 := h.hi; have h4 := h2.lo; have h5 := h2.hi
  have a1 := Rat.mul_nonneg (a := b - q) (b := c + r) (by grind) (by grind)
  have a2 := Rat.mul_nonneg (a := b + q) (b := c - r) (by grind) (by grind)
  have a3 := Rat.mul_nonneg (a := b - q) (b := c - r) (by grind) (by grind)
  have a4 := Rat.mul_nonneg (a := b + q) (b := c + r) (by grind) (by grind)
  constructor <;> grind
theorem wi_sq {q b : Rat} (h : q * q ≤ b) (h1 : 1 ≤ b) : wi q b := by
  constructor
  · by_cases c : -b ≤ q
    · exact c
    · have a := Rat.not_le.mp c
      have := Rat.mul_nonneg (a := -q - 1) (b := -q) (by grind) (by grind)
      grind
  · by_cases c : q ≤ b
    · exact c
    · have a := Rat.not_le.mp c
      have := Rat.mul_nonneg (a := q - 1) (b := q) (by grind) (by grind)
      grind
theorem wi_sum {f : Nat → Rat} {b : Rat} : ∀ {n}, (∀ i, i < n → wi (f i) b) → wi (sumQ f n) ((n : Rat) * b)
  | 0, _ => by
    have e : ((0 : Nat) : Rat) * b = 0 := by simp
    rw [e]
    constructor
    · show (-0 : Rat) ≤ 0; grind
    · show (0 : Rat) ≤ 0; grind
  | n + 1, h => by
    have h1 := wi_sum (n := n) fun i hi => h i (by omega)
    have h2 := wi_add h1 (h n (by omega))
    have e : ((n + 1 : Nat) : Rat) * b = (n : Rat) * b + b := by push_cast; grind
    rw [e]; exact h2
/-! ### Coefficients -/
/-- what bounds the coefficient that is m places from the end -/
def bdC (T K : Int) : Nat → Int
  | 0 => T
  | m + 1 => bdC T K m * K
theorem bdC_pos {T K : Int} (hT : 0 < T) (hK : 0 < K) : ∀ m, 0 < bdC T K m
  | 0 => hT
  | m + 1 => Int.mul_pos (bdC_pos hT hK m) hK
theorem bdC_mono {T K : Int} (hT : 0 < T) (hK : 0 < K) : ∀ m, bdC T K m ≤ bdC T K (m + 1) := fun m => by
  show bdC T K m ≤ bdC T K m * K
  have := Int.mul_le_mul_of_nonneg_left (show 1 ≤ K by omega) (Int.le_of_lt (bdC_pos hT hK m))
  omega
theorem bdC_ge {T K : Int} (hT : 0 < T) (hK : 0 < K) : ∀ m, T ≤ bdC T K m
  | 0 => Int.le_refl _
  | m + 1 => Int.le_trans (bdC_ge hT hK m) (bdC_mono hT hK m)
theorem bdC_pow {t k : Nat} {T K : Int} (hT : 0 < T) (hK : 0 < K) (h1 : T ≤ ((2 ^ t : Nat) : Int)) (h2 : K ≤ ((2 ^ k : Nat) : Int)) : ∀ m, bdC T K m ≤ ((2 ^ (t + k * m) : Nat) : Int)
  | 0 => h1
  | m + 1 => by
    show bdC T K m * K ≤ _
    have h3 := Int.mul_le_mul (bdC_pow hT hK h1 h2 m) h2 (Int.le_of_lt hK) (Int.natCast_nonneg _)
    rw [show t + k * (m + 1) = t + k * m + k by rw [Nat.mul_add]; omega, Nat.pow_add]
    push_cast at h3 ⊢
    exact h3
theorem wi_int {z b : Int} (h : wi (z : Rat) (b : Rat)) : -b ≤ z ∧ z ≤ b := by
  have h1 := h.lo
  rw [← Rat.intCast_neg] at h1
  exact ⟨Rat.intCast_le_intCast.mp h1, Rat.intCast_le_intCast.mp h.hi⟩
section
variable {G : Fi} {n : Nat}
/-- a coefficient by those behind it -/
theorem qy_split (hs : SymG G) (hp : PosU G n) (c : Nat → Rat) {l : Nat} (hl : l < n) : qy (qG G) n c l = (c l + sumQ (fun i => if l < i then c i * frM G i l else 0) n) * frS G l := by
  unfold qy
  have e : ∀ i, i < n → c i * gsE (qG G) l i l = (if i = l then c l * frS G l else 0) + (if l < i then c i * frM G i l else 0) * frS G l := fun i hi => by
    by_cases h1 : i = l
    · subst h1; rw [if_pos rfl, if_neg (by omega)]; unfold frS; grind
    · rw [if_neg h1]
      by_cases h2 : l < i
      · rw [if_pos h2, ← frM_mul hs hp (show l < n by omega)]; grind
      · rw [if_neg h2, gsE_gone (qG_sy hs) (fun k hk => piv_ne hs hp hk) l (by omega) i l (Or.inl (by omega))]; grind
  rw [sumQ_congr e, sumQ_add, ← sumQ_mul, sumQ_one hl (fun i hi h => if_neg h), if_pos rfl]
  grind
/-- the coefficients of a short row are small -/
theorem coef_le (hs : SymG G) (hp : PosU G n) (h12 : n ≤ 12) {M Dm Q : Int} (hM : ∀ x, x < n → G x x ≤ M) (hD : ∀ l, l ≤ n → uD G l ≤ Dm) (c : Nat → Rat) (hQ : qf (qG G) n c ≤ (Q : Rat)) (hQ1 : 1 ≤ Q) (hM1 : 1 ≤ M) : ∀ m, ∀ l, l < n → n ≤ l + m → wi (c l) ((bdC (Q * Dm) (1 + 12 * (M * Dm)) m : Int) : Rat)
  | 0, l, hl, hm => absurd hl (by omega)
  | m + 1, l, hl, hm => by
    have ih := coef_le hs hp h12 hM hD c hQ hQ1 hM1 m
    have hD1 : 1 ≤ Dm := hD 0 (Nat.zero_le _)
    have hT : 0 < Q * Dm := Int.mul_pos (by omega) (by omega)
    have hR : 0 < M * Dm := Int.mul_pos (by omega) (by omega)
    have hK : 0 < 1 + 12 * (M * Dm) := by omega
    have hb := bdC_pos hT hK m
    have f0 := frS_p hs hp hl
    have u1 := uD_succ hs hp hl
    have d0 : (0 : Rat) < (uD G l : Rat) := by have := hp.uD (show l ≤ n by omega); exact_mod_cast this
    have d1 : ((1 : Int) : Rat) ≤ (uD G (l + 1) : Rat) := Rat.intCast_le_intCast.mpr (by have := hp.uD (show l + 1 ≤ n by omega); omega)
    have d2 : (uD G l : Rat) ≤ (Dm : Rat) := Rat.intCast_le_intCast.mpr (hD l (by omega))
    have o1 : ((1 : Int) : Rat) = 1 := rfl
    rw [o1] at d1
    -- 1 ≤ Dm * frS
    have g0 : (1 : Rat) ≤ (Dm : Rat) * frS G l := by
      have := Rat.mul_le_mul_of_nonneg_right d2 (Rat.le_of_lt f0)
      grind
    -- from z z frS ≤ B follows z z ≤ B Dm
    have key : ∀ (z B : Rat), z * z * frS G l ≤ B → z * z ≤ B * (Dm : Rat) := fun z B h => by
      have a1 := Rat.mul_le_mul_of_nonneg_left g0 (sq_nonneg z)
      have a2 : (0 : Rat) ≤ (Dm : Rat) := by grind
      have a3 := Rat.mul_le_mul_of_nonneg_right h a2
      grind
    have hy := qy_le (c := c) (qG_sy hs) (fun k hk => piv_pos hs hp hk) hl
    rw [qy_split hs hp c hl] at hy
    generalize hsm : sumQ (fun i => if l < i then c i * frM G i l else 0) n = S at hy
    have hy2 : (c l + S) * (c l + S) * frS G l ≤ (Q : Rat) := by
      have a1 : (c l + S) * frS G l * ((c l + S) * frS G l) = (c l + S) * (c l + S) * frS G l * frS G l := by grind
      rw [a1] at hy
      have a2 : qf (qG G) n c * gsE (qG G) l l l ≤ (Q : Rat) * frS G l := Rat.mul_le_mul_of_nonneg_right hQ (Rat.le_of_lt f0)
      by_cases h : (c l + S) * (c l + S) * frS G l ≤ (Q : Rat)
      · exact h
      · have a3 := Rat.mul_lt_mul_of_pos_right (Rat.not_le.mp h) f0
        grind
    have w1 := wi_sq (q := c l + S) (b := ((Q * Dm : Int) : Rat)) (by rw [Rat.intCast_mul]; exact key _ _ hy2) (by rw [← o1]; exact Rat.intCast_le_intCast.mpr (by omega))
    have w2 : wi S ((n : Rat) * ((bdC (Q * Dm) (1 + 12 * (M * Dm)) m * (M * Dm) : Int) : Rat)) := by
      rw [← hsm]
      refine wi_sum fun i hi => ?_
      by_cases h : l < i
      · rw [if_pos h, Rat.intCast_mul]
        refine wi_mul (ih i hi (by omega)) ?_
        have t := term_le hs hp h hi
        have t2 : (G i i : Rat) ≤ (M : Rat) := Rat.intCast_le_intCast.mpr (hM i hi)
        exact wi_sq (by rw [Rat.intCast_mul]; exact key _ _ (Rat.le_trans t t2)) (by rw [← o1]; exact Rat.intCast_le_intCast.mpr (by omega))
      · rw [if_neg h]
        have : (0 : Rat) ≤ ((bdC (Q * Dm) (1 + 12 * (M * Dm)) m * (M * Dm) : Int) : Rat) := by
          have o0 : ((0 : Int) : Rat) = 0 := rfl
          rw [← o0]; exact Rat.intCast_le_intCast.mpr (Int.le_of_lt (Int.mul_pos hb hR))
        constructor <;> grind
    have w3 := wi_sub w1 w2
    have e3 : c l + S - S = c l := by grind
    rw [e3] at w3
    refine wi_le w3 ?_
    have hTm : Q * Dm ≤ bdC (Q * Dm) (1 + 12 * (M * Dm)) m := bdC_ge hT hK m
    have en : (n : Rat) * ((bdC (Q * Dm) (1 + 12 * (M * Dm)) m * (M * Dm) : Int) : Rat) = (((n : Int) * (bdC (Q * Dm) (1 + 12 * (M * Dm)) m * (M * Dm)) : Int) : Rat) := by
      rw [Rat.intCast_mul (n : Int), Rat.intCast_natCast]
    rw [en, ← Rat.intCast_add]
    refine Rat.intCast_le_intCast.mpr ?_
    show _ ≤ bdC (Q * Dm) (1 + 12 * (M * Dm)) m * (1 + 12 * (M * Dm))
    generalize bdC (Q * Dm) (1 + 12 * (M * Dm)) m = b at *
    have a1 := Int.mul_pos hb hR
    have a2 := Int.mul_le_mul_of_nonneg_right (show (n : Int) ≤ 12 by omega) (Int.le_of_lt a1)
    have a3 : b * (1 + 12 * (M * Dm)) = b + 12 * (b * (M * Dm)) := by grind
    omega
end
/-! ### The form of a change -/
/-- the form that rows u make of a form -/
def fU (A : Fi) (n : Nat) (u : Fi) : Fi := fun x y => sumN (fun j => sumN (fun i => u x i * A i j) n * u y j) n
theorem fU_add (A : Fi) (n : Nat) (a b c : Nat → Int) (s : Int) : sumN (fun j => sumN (fun i => (a i + s * b i) * A i j) n * c j) n = sumN (fun j => sumN (fun i => a i * A i j) n * c j) n + s * sumN (fun j => sumN (fun i => b i * A i j) n * c j) n := by
  rw [mul_sumN, ← sumN_add]
  refine sumN_congr fun j _ => ?_
  have e : sumN (fun i => (a i + s * b i) * A i j) n = sumN (fun i => a i * A i j) n + s * sumN (fun i => b i * A i j) n := by
    rw [mul_sumN, ← sumN_add]
    refine sumN_congr fun i _ => ?_
    show (a i + s * b i) * A i j = a i * A i j + s * (b i * A i j)
    grind
  rw [e]; show _ = _ + s * (_ * c j); grind
theorem fU_add2 (A : Fi) (n : Nat) (c a b : Nat → Int) (s : Int) : sumN (fun j => sumN (fun i => c i * A i j) n * (a j + s * b j)) n = sumN (fun j => sumN (fun i => c i * A i j) n * a j) n + s * sumN (fun j => sumN (fun i => c i * A i j) n * b j) n := by
  rw [mul_sumN, ← sumN_add]
  refine sumN_congr fun j _ => ?_
  show _ * (a j + s * b j) = _ * a j + s * (_ * b j)
  grind
/-- row k grows by q times row j -/
def rU (u : Fi) (k j : Nat) (q : Int) : Fi := fun x i => u x i + (if x = k then q else 0) * u j i
theorem fU_row (A : Fi) (n : Nat) (u : Fi) {k j : Nat} (q : Int) : fU A n (rU u k j q) = rowI (fU A n u) k j q := by
  funext x y
  show sumN (fun j => sumN (fun i => (u x i + (if x = k then q else 0) * u _ i) * A i j) n * (u y j + (if y = k then q else 0) * u _ j)) n = _
  rw [fU_add, fU_add2, fU_add2]
  unfold rowI fU
  grind
theorem fU_swp (A : Fi) (n : Nat) (u : Fi) (p : Nat) : fU A n (fun x => u (sg p x)) = swpI (fU A n u) p := rfl
theorem fU_congr {A : Fi} {n : Nat} {u w : Fi} (h : ∀ x i, i < n → u x i = w x i) : fU A n u = fU A n w := by
  funext x y
  unfold fU
  refine sumN_congr fun j hj => ?_
  rw [h y j hj, sumN_congr fun i hi => by rw [h x i hi]]
theorem sumN_one {f : Nat → Int} {k : Nat} : ∀ {n}, k < n → (∀ i, i < n → i ≠ k → f i = 0) → sumN f n = f k
  | 0, hk, _ => absurd hk (by omega)
  | n + 1, hk, h => by
    show sumN f n + f n = f k
    by_cases e : k = n
    · subst e
      rw [sumN_congr (g := fun _ => 0) fun i hi => h i (by omega) (by omega), sumN_zero]; omega
    · rw [sumN_one (n := n) (by omega) fun i hi => h i (by omega), h n (by omega) (by omega)]; omega
theorem fU_unit {A : Fi} {n : Nat} {u : Fi} (h : ∀ x i, i < n → u x i = if x = i then 1 else 0) (h0 : ∀ x y, ¬ (x < n ∧ y < n) → A x y = 0) : fU A n u = A := by
  funext x y
  unfold fU
  have e1 : ∀ j, j < n → sumN (fun i => u x i * A i j) n = A x j := fun j hj => by
    by_cases hx : x < n
    · rw [sumN_one hx fun i hi hne => by show u x i * A i j = 0; rw [h x i hi, if_neg (by omega)]; omega, h x x hx, if_pos rfl]; omega
    · rw [sumN_congr (g := fun _ => 0) fun i hi => by show u x i * A i j = 0; rw [h x i hi, if_neg (by omega)]; omega, sumN_zero, h0 x j (by omega)]
  rw [sumN_congr fun j hj => by rw [e1 j hj]]
  by_cases hy : y < n
  · rw [sumN_one hy fun i hi hne => by show A x i * u y i = 0; rw [h y i hi, if_neg (by omega)]; omega, h y y hy, if_pos rfl]; omega
  · rw [sumN_congr (g := fun _ => 0) fun i hi => by show A x i * u y i = 0; rw [h y i hi, if_neg (by omega)]; omega, sumN_zero, h0 x y (by omega)]
theorem sumN_q (f : Nat → Int) : ∀ n, ((sumN f n : Int) : Rat) = sumQ (fun i => (f i : Rat)) n
  | 0 => rfl
  | n + 1 => by
    show ((sumN f n + f n : Int) : Rat) = sumQ _ n + _
    rw [Rat.intCast_add, sumN_q f n]
theorem fU_qf (A : Fi) (n : Nat) (u : Fi) (x : Nat) : ((fU A n u x x : Int) : Rat) = qf (qG A) n (fun i => (u x i : Rat)) := by
  unfold fU qf
  rw [sumN_q, sumQ_comm]
  refine sumQ_congr fun j _ => ?_
  rw [Rat.intCast_mul, sumN_q, sumQ_mul]
  refine sumQ_congr fun i _ => ?_
  rw [Rat.intCast_mul]; unfold qG; grind
/-! ### Hermite -/
section
variable {G : Fi} {n : Nat}
theorem star_half (hs : SymG G) (hp : PosU G n) {x : Nat} (h0 : 0 < x) (hx : x < n) (hh : half (frM G x (x - 1))) (hv : lov G x) : frS G (x - 1) ≤ 2 * frS G x := by
  have f0 := frS_p hs hp (show x - 1 < n by omega)
  have a1 := Rat.mul_le_mul_of_nonneg_right (half_sq hh) (Rat.le_of_lt f0)
  unfold lov at hv
  grind
def p2 : Nat → Rat
  | 0 => 1
  | m + 1 => 2 * p2 m
theorem p2_pos : ∀ m, 0 < p2 m
  | 0 => by show (0 : Rat) < 1; grind
  | m + 1 => by have := p2_pos m; show 0 < 2 * p2 m; grind
theorem star_pow (hs : SymG G) (hp : PosU G n) (hh : ∀ x, x < n → ∀ l, l < x → half (frM G x l)) (hv : ∀ x, 0 < x → x < n → lov G x) : ∀ x, x < n → frS G 0 ≤ p2 x * frS G x
  | 0, hx => by show _ ≤ 1 * _; grind
  | x + 1, hx => by
    have ih := star_pow hs hp hh hv x (by omega)
    have a := star_half hs hp (show 0 < x + 1 by omega) hx (hh _ hx _ (by omega)) (hv _ (by omega) hx)
    rw [show x + 1 - 1 = x by omega] at a
    have b := Rat.mul_le_mul_of_nonneg_left a (Rat.le_of_lt (p2_pos x))
    show _ ≤ 2 * p2 x * _
    grind
/-- 2 to the m (m - 1) / 2 -/
def h2 : Nat → Rat
  | 0 => 1
  | m + 1 => p2 m * h2 m
theorem h2_pos : ∀ m, 0 < h2 m
  | 0 => by show (0 : Rat) < 1; grind
  | m + 1 => Rat.mul_pos (p2_pos m) (h2_pos m)
def pwQ (q : Rat) : Nat → Rat
  | 0 => 1
  | m + 1 => q * pwQ q m
theorem hermite (hs : SymG G) (hp : PosU G n) (hh : ∀ x, x < n → ∀ l, l < x → half (frM G x l)) (hv : ∀ x, 0 < x → x < n → lov G x) : ∀ m, m ≤ n → pwQ (frS G 0) m ≤ h2 m * (uD G m : Rat)
  | 0, _ => by show (1 : Rat) ≤ 1 * ((1 : Int) : Rat); have e : ((1 : Int) : Rat) = 1 := rfl; rw [e]; grind
  | m + 1, hm => by
    have ih := hermite hs hp hh hv m (by omega)
    have a := star_pow hs hp hh hv m (by omega)
    have f0 := frS_p hs hp (show 0 < n by omega)
    have f1 := frS_p hs hp (show m < n by omega)
    show frS G 0 * pwQ (frS G 0) m ≤ p2 m * h2 m * _
    rw [uD_succ hs hp (show m < n by omega)]
    have b1 := Rat.mul_le_mul_of_nonneg_left ih (Rat.le_of_lt f0)
    have c1 : 0 ≤ h2 m * (uD G m : Rat) := Rat.mul_nonneg (Rat.le_of_lt (h2_pos m)) (by have := hp.uD (show m ≤ n by omega); exact_mod_cast Int.le_of_lt this)
    have b2 := Rat.mul_le_mul_of_nonneg_right a c1
    grind
end
end Fw

