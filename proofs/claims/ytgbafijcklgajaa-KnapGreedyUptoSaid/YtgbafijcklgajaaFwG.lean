/- The frame of the walks: a region that draws its order: first, in whatever order, operations that only read, call or make variables; then the rest in the text's order. -/
import Derived.Test.YtgbafijcklgajaaFwF
import Derived.Orders
import Derived.Deep.LoopGhost
set_option linter.unusedVariables false
set_option linter.unusedSimpArgs false
namespace Fw
open Go

inductive Pl where
  | fr (p : VP)
  | lt (p : VP)
  | al (tok : Nat → OB)

def deps (ops : Array Oper) (i : Nat) : List Nat := (((ops[i]?).map (·.after.toList)).getD []).filterMap fun e => if Region.binds .any e then some e.on else none
def dstOf (ops : Array Oper) (i : Nat) : Nat := ((ops[i]?).bind (·.dst)).getD 0
def depEnv (ops : Array Oper) (Γ : List Pl) : List Nat → Env
  | [] => []
  | j :: js => match Γ[j]? with
    | some (.fr p) => (dstOf ops j, p) :: depEnv ops Γ js
    | some (.lt p) => (dstOf ops j, p) :: depEnv ops Γ js
    | _ => depEnv ops Γ js
def allEnv (ops : Array Oper) (σ : Nat → Nat) : Nat → List Pl → Env
  | _, [] => []
  | i, .fr p :: r => (dstOf ops i, p) :: allEnv ops σ (i + 1) r
  | i, .lt p :: r => (dstOf ops i, p) :: allEnv ops σ (i + 1) r
  | i, .al _ :: r => (dstOf ops i, VP.ex (.pointer (some ⟨σ i, 0, none⟩))) :: allEnv ops σ (i + 1) r
def allToks (σ : Nat → Nat) : Nat → List Pl → List OB
  | _, [] => []
  | i, .al tok :: r => tok (σ i) :: allToks σ (i + 1) r
  | i, _ :: r => allToks σ (i + 1) r
def reach (ops : Array Oper) : Nat → Nat → Nat → Bool
  | 0, _, _ => false
  | n + 1, k, i => (deps ops k).any fun j => j == i || reach ops n j i
def depArr (ops : Array Oper) (i : Nat) : Array Bool := ((List.range ops.size).map fun j => (deps ops i).contains j).toArray
def Pl.late : Pl → Bool
  | .lt _ => true
  | _ => false

section
variable {C : Ctx} {Q : Exit → Act → World → Prop} {ρ : Env} {L0 : List OB} {ops : Array Oper}

/-- What must be shown of operation i. -/
def Ob (C : Ctx) (ops : Array Oper) (Q : Exit → Act → World → Prop) (ρ : Env) (L0 : List OB) (Γ : List Pl) (i : Nat) : Pl → Prop
  | .fr p => ∀ N m w a, Sat C m w (N ++ L0) → Has C.N m a (depEnv ops Γ (deps ops i) ++ ρ) → ∀ K : Act → World → Prop, (∀ m' w' v, Mem.le m m' → Sat C m' w' (N ++ L0) → p.p m' v → K (a.put (some (dstOf ops i)) v) w') → wpOp C.P ops Q i K a w
  | .lt p => ∀ m a, Has C.N m a (depEnv ops Γ (deps ops i) ++ ρ) → ∃ o v, ops[i]? = some o ∧ Yields C.P ops o v a ∧ p.p m v
  | .al tok => ∀ N m w a, Sat C m w (N ++ L0) → Has C.N m a (depEnv ops Γ (deps ops i) ++ ρ) → ∀ K : Act → World → Prop, (∀ m' w' b, Mem.le m m' → Sat C m' w' (tok b :: (N ++ L0)) → K (a.put (some (dstOf ops i)) (.pointer (some ⟨b, 0, none⟩))) w') → wpOp C.P ops Q i K a w

/-- How far it has come: what is listed, and what is known. -/
structure Far (C : Ctx) (ops : Array Oper) (ρ : Env) (L0 : List OB) (Γ : List Pl) (listed : Array Bool) (m : Mem) (σ : Nat → Nat) (a : Act) (w : World) : Prop where
  sat : Sat C m w (((List.range Γ.length).filterMap fun i => if listed.getD i false then (match Γ[i]? with | some (.al tok) => some (tok (σ i)) | _ => none) else none) ++ L0)
  defers : a.defers = []
  size : a.tmps.size = C.N
  old : ∀ t p, ρ.get t = some p → p.p m (a.tmps.getD t undef)
  new : ∀ i, listed.getD i false = true → i < Γ.length ∧ (∀ p, (Γ[i]? = some (.fr p) ∨ Γ[i]? = some (.lt p)) → p.p m (a.tmps.getD (dstOf ops i) undef)) ∧ (∀ tok, Γ[i]? = some (.al tok) → a.tmps.getD (dstOf ops i) undef = .pointer (some ⟨σ i, 0, none⟩))
  closed : ∀ i, listed.getD i false = true → ∀ j ∈ deps ops i, listed.getD j false = true
  len : listed.size = ops.size

theorem deps_ready {listed : Array Bool} {i : Nat} {o : Oper} (ho : ops[i]? = some o) (h : ∀ e ∈ o.after, Region.binds .any e = true → listed.getD e.on false = true) : ∀ j ∈ deps ops i, listed.getD j false = true := by
  intro j hj
  simp only [deps, ho, Option.map_some, Option.getD_some, List.mem_filterMap] at hj
  obtain ⟨e, he, h1⟩ := hj
  split at h1
  · rename_i hb
    simp only [Option.some.injEq] at h1
    subst h1
    exact h e (by simpa using he) hb
  · cases h1
theorem ready_deps {listed : Array Bool} {i : Nat} (hi : i < ops.size) (hn : listed.getD i true = false) (h : ∀ j ∈ deps ops i, listed.getD j false = true) : i ∈ Region.ready .any ops listed := by
  rw [mem_ready]
  refine ⟨hn, ops[i], by simp [hi], fun e he hb => h _ ?_⟩
  simp only [deps, Array.getElem?_eq_getElem hi, Option.map_some, Option.getD_some, List.mem_filterMap]
  exact ⟨e, by simpa using he, by simp [hb]⟩
theorem depEnv_get {Γ : List Pl} : ∀ {js : List Nat} {t : Nat} {p : VP}, (depEnv ops Γ js).get t = some p → ∃ j ∈ js, dstOf ops j = t ∧ (Γ[j]? = some (.fr p) ∨ Γ[j]? = some (.lt p))
  | [], t, p, h => by cases h
  | j :: js, t, p, h => by
    have hrec : (depEnv ops Γ js).get t = some p → ∃ i ∈ j :: js, dstOf ops i = t ∧ (Γ[i]? = some (.fr p) ∨ Γ[i]? = some (.lt p)) := fun h => by
      obtain ⟨i, h1, h2⟩ := depEnv_get h
      exact ⟨i, List.mem_cons_of_mem _ h1, h2⟩
    have hcons : ∀ q, (Γ[j]? = some (.fr q) ∨ Γ[j]? = some (.lt q)) → Env.get ((dstOf ops j, q) :: depEnv ops Γ js) t = some p → ∃ i ∈ j :: js, dstOf ops i = t ∧ (Γ[i]? = some (.fr p) ∨ Γ[i]? = some (.lt p)) := fun q hq h => by
      simp only [Env.get] at h
      cases hb : Nat.beq (dstOf ops j) t with
      | true =>
        have := Nat.eq_of_beq_eq_true hb
        simp only [hb, cond_true, Option.some.injEq] at h
        subst h
        exact ⟨j, by simp, this, hq⟩
      | false => simp only [hb, cond_false] at h; exact hrec h
    simp only [depEnv] at h
    cases hg : Γ[j]? with
    | none => simp only [hg] at h; exact hrec h
    | some x =>
      cases x with
      | fr q => simp only [hg] at h; exact hcons q (.inl hg) h
      | lt q => simp only [hg] at h; exact hcons q (.inr hg) h
      | al tok => simp only [hg] at h; exact hrec h
theorem Env.get_append : ∀ (a b : Env) (t : Nat), Env.get (a ++ b) t = ((Env.get a t).or (Env.get b t))
  | [], b, t => rfl
  | (j, p) :: a, b, t => by
    simp only [List.cons_append, Env.get]
    cases Nat.beq j t <;> simp [Env.get_append a b t]
theorem Far.has {Γ : List Pl} {listed : Array Bool} {m : Mem} {σ : Nat → Nat} {a : Act} {w : World} (f : Far C ops ρ L0 Γ listed m σ a w) {js : List Nat} (hj : ∀ j ∈ js, listed.getD j false = true) : Has C.N m a (depEnv ops Γ js ++ ρ) := by
  refine ⟨f.defers, f.size, fun t p h => ?_⟩
  rw [Env.get_append] at h
  cases h1 : (depEnv ops Γ js).get t with
  | some q =>
    rw [h1] at h
    simp only [Option.some_or, Option.some.injEq] at h
    subst h
    obtain ⟨j, h2, h3, h4⟩ := depEnv_get h1
    rw [← h3]
    exact (f.new j (hj j h2)).2.1 _ h4
  | none => rw [h1] at h; exact f.old t p (by simpa using h)

theorem putD {a : Act} {d t : Nat} {v : Value} {N : Nat} (hs : a.tmps.size = N) (hd : d < N) : (a.put (some d) v).tmps.getD t undef = if d = t then v else a.tmps.getD t undef := by
  simp only [Act.put, Array.getD_eq_getD_getElem?, Array.getElem?_setIfInBounds, hs]
  by_cases h : d = t
  · subst h; simp [hd]
  · simp [h]

/-- The checks on a region, all closed. -/
structure Chk (N : Nat) (ops : Array Oper) (ρ : Env) (Γ : List Pl) (lates : List Bool) : Prop where
  late : Γ.map Pl.late = lates
  le : Γ.length ≤ ops.size
  dst : ∀ i, i < Γ.length → ∃ o, ops[i]? = some o ∧ o.dst = some (dstOf ops i) ∧ dstOf ops i < N ∧ ρ.get (dstOf ops i) = none
  inj : ∀ i j, i < Γ.length → j < Γ.length → dstOf ops i = dstOf ops j → i = j
  lt : ∀ i, i < ops.size → ∀ j ∈ deps ops i, j < i
  anc : ∀ i, i < Γ.length → lates.getD i false = false → ∀ k, Γ.length ≤ k → k < ops.size → reach ops 12 k i = true
  chain : ∀ k, Γ.length < k → k < ops.size → (k - 1) ∈ deps ops k
  sel : Region.noSelect ops = true
  free : ∀ i, i < Γ.length → lates.getD i false = true → Region.free .any ops (depArr ops i) i = true

theorem reach_listed {listed : Array Bool} (hc : ∀ i, listed.getD i false = true → ∀ j ∈ deps ops i, listed.getD j false = true) : ∀ (n k i : Nat), (∀ j ∈ deps ops k, listed.getD j false = true) → reach ops n k i = true → listed.getD i false = true
  | 0, k, i, _, h => by cases h
  | n + 1, k, i, hk, h => by
    simp only [reach, List.any_eq_true, Bool.or_eq_true, beq_iff_eq] at h
    obtain ⟨j, hj, h | h⟩ := h
    · subst h; exact hk _ hj
    · exact reach_listed hc n j i (hc j (hk j hj)) h

theorem wpAny_seq (hlt : ∀ i, i < ops.size → ∀ j ∈ deps ops i, j < i) (k0 : Nat) (hch : ∀ k, k0 < k → k < ops.size → (k - 1) ∈ deps ops k) : ∀ (fuel k : Nat) (listed : Array Bool) (a : Act) (w : World), k0 ≤ k → k + fuel = ops.size → listed.size = ops.size → (∀ i, i < ops.size → listed.getD i false = decide (i < k)) →
    wpList C.P ops Q (ops.toList.drop k) a w → wpAny C.P .any ops Q fuel listed a w := by
  intro fuel
  induction fuel with
  | zero =>
    intro k listed a w h1 h2 h3 h4 h
    rw [List.drop_of_length_le (by simp; omega)] at h
    refine ⟨?_, h⟩
    rw [List.eq_nil_iff_forall_not_mem]
    intro j hj
    obtain ⟨h5, o, h6, _⟩ := mem_ready.1 hj
    have hj' : j < ops.size := (Array.getElem?_eq_some_iff.1 h6).1
    have := h4 j hj'
    simp [Array.getD_eq_getD_getElem?, Array.getElem?_eq_getElem (show j < listed.size by omega)] at h5 this
    rw [h5] at this
    simp at this
    omega
  | succ fuel ih =>
    intro k listed a w h1 h2 h3 h4 h
    have hk : k < ops.size := by omega
    have hready : ∀ j, j ∈ Region.ready .any ops listed ↔ j = k := by
      intro j
      constructor
      · intro hj
        obtain ⟨h5, o, h6, h7⟩ := mem_ready.1 hj
        have hj' : j < ops.size := (Array.getElem?_eq_some_iff.1 h6).1
        have h8 := h4 j hj'
        simp [Array.getD_eq_getD_getElem?, Array.getElem?_eq_getElem (show j < listed.size by omega)] at h5 h8
        rw [h5] at h8
        simp at h8
        rcases Nat.lt_or_ge k j with hlt' | hge
        · have h9 := deps_ready h6 h7 (j - 1) (hch j (by omega) hj')
          rw [h4 (j - 1) (by omega)] at h9
          simp at h9
          omega
        · omega
      · intro hj
        subst hj
        refine ready_deps hk ?_ (fun j hj => ?_)
        · have h8 := h4 j hk
          simp [Array.getD_eq_getD_getElem?, Array.getElem?_eq_getElem (show j < listed.size by omega)] at h8 ⊢
          exact h8
        · have := hlt _ hk j hj
          rw [h4 j (by omega)]
          simpa using this
    refine ⟨fun h0 => ?_, fun j hj => ?_⟩
    · have := (hready k).2 rfl
      rw [h0] at this; cases this
    · have hjk := (hready j).1 hj
      subst hjk
      have hdrop : ops.toList.drop j = ops[j] :: ops.toList.drop (j + 1) := by
        rw [List.drop_eq_getElem_cons (by simpa using hk)]; simp
      rw [hdrop] at h
      unfold wpList at h
      have key : ∀ a w, wpList C.P ops Q (ops.toList.drop (j + 1)) a w → wpAny C.P .any ops Q fuel (listed.setIfInBounds j true) a w := fun a w h => by
        refine ih (j + 1) _ a w (by omega) (by omega) (by simpa using h3) (fun i hi => ?_) h
        by_cases hij : j = i
        · subst hij
          simp [Array.getD_eq_getD_getElem?, Array.getElem?_setIfInBounds, h3, hi]
        · rw [getD_set_ne false hij, h4 i hi]
          simp; omega
      have ho : ops[j]? = some ops[j] := by simp [hk]
      unfold wpOp
      simp only [ho]
      split
      · rename_i hw
        rw [if_pos hw] at h
        exact h.imp (Oper.wp_mono key) id
      · rename_i hw
        rw [if_neg hw] at h
        exact key _ _ h

theorem fm_congr {α β : Type} {l : List α} {f g : α → Option β} (h : ∀ a ∈ l, f a = g a) : l.filterMap f = l.filterMap g := by
  induction l with
  | nil => rfl
  | cons a l ih =>
    rw [List.filterMap_cons, List.filterMap_cons, h a (by simp), ih (fun b hb => h b (List.mem_cons_of_mem _ hb))]
theorem far_perm {Γ : List Pl} {listed : Array Bool} {σ : Nat → Nat} (hlen : listed.size = ops.size) {i b : Nat} {tok : Nat → OB} (hi : Γ[i]? = some (.al tok)) (hn : listed.getD i true = false) :
    (((List.range Γ.length).filterMap fun j => if (listed.setIfInBounds i true).getD j false then (match Γ[j]? with | some (.al tok) => some (tok (if j = i then b else σ j)) | _ => none) else none)).Perm (tok b :: ((List.range Γ.length).filterMap fun j => if listed.getD j false then (match Γ[j]? with | some (.al tok) => some (tok (σ j)) | _ => none) else none)) := by
  have hil : i < Γ.length := (List.getElem?_eq_some_iff.1 hi).1
  have his : i < listed.size := by
    rcases Nat.lt_or_ge i listed.size with h | h
    · exact h
    · simp [Array.getD_eq_getD_getElem?, Array.getElem?_eq_none h] at hn
  have hnf : listed.getD i false = false := by
    simp [Array.getD_eq_getD_getElem?, Array.getElem?_eq_getElem his] at hn ⊢; exact hn
  have hsplit : List.range Γ.length = List.range i ++ i :: (List.range' (i + 1) (Γ.length - i - 1)) := by
    rw [List.range_eq_range', List.range_eq_range', show Γ.length = i + (1 + (Γ.length - i - 1)) from by omega, ← List.range'_append, ← List.range'_append]
    simp
  have hmem : ∀ j, j ∈ List.range i ∨ j ∈ List.range' (i + 1) (Γ.length - i - 1) → j ≠ i := by
    intro j hj
    rcases hj with hj | hj
    · have := List.mem_range.1 hj; omega
    · have := List.mem_range'_1.1 hj; omega
  have hsame : ∀ l : List Nat, (∀ j ∈ l, j ≠ i) → (l.filterMap fun j => if (listed.setIfInBounds i true).getD j false then (match Γ[j]? with | some (.al tok) => some (tok (if j = i then b else σ j)) | _ => none) else none) = (l.filterMap fun j => if listed.getD j false then (match Γ[j]? with | some (.al tok) => some (tok (σ j)) | _ => none) else none) := by
    intro l hl
    apply fm_congr
    intro j hj
    have hji := hl j hj
    rw [getD_set_ne false (Ne.symm hji)]
    simp only [if_neg hji]
  rw [hsplit, List.filterMap_append, List.filterMap_append, List.filterMap_cons, List.filterMap_cons]
  have h1 : (listed.setIfInBounds i true).getD i false = true := by
    simp [Array.getD_eq_getD_getElem?, Array.getElem?_setIfInBounds, his]
  simp only [h1, hnf, hi, if_true, Bool.false_eq_true, if_false]
  rw [hsame _ (fun j hj => hmem j (.inl hj)), hsame _ (fun j hj => hmem j (.inr hj))]
  exact List.perm_middle

theorem Far.fr {Γ : List Pl} {lates : List Bool} (ck : Chk C.N ops ρ Γ lates) {listed : Array Bool} {m m' : Mem} {σ : Nat → Nat} {a : Act} {w w' : World} (f : Far C ops ρ L0 Γ listed m σ a w) {i : Nat} (hi : i < Γ.length) (hn : listed.getD i true = false) (hdep : ∀ j ∈ deps ops i, listed.getD j false = true) {p : VP} (hp : Γ[i]? = some (.fr p) ∨ Γ[i]? = some (.lt p)) {v : Value} (hm : Mem.le m m')
    (s : Sat C m' w' (((List.range Γ.length).filterMap fun i => if listed.getD i false then (match Γ[i]? with | some (.al tok) => some (tok (σ i)) | _ => none) else none) ++ L0)) (hv : p.p m' v) : Far C ops ρ L0 Γ (listed.setIfInBounds i true) m' σ (a.put (some (dstOf ops i)) v) w' := by
  obtain ⟨o, ho, hd, hdN, hρ⟩ := ck.dst i hi
  have his : i < listed.size := by
    rcases Nat.lt_or_ge i listed.size with h | h
    · exact h
    · simp [Array.getD_eq_getD_getElem?, Array.getElem?_eq_none h] at hn
  have hput := fun t => putD (a := a) (d := dstOf ops i) (t := t) (v := v) f.size hdN
  refine ⟨?_, f.defers, by simp [Act.put, f.size], fun t q hq => ?_, fun j hj => ?_, fun j hj l hl => ?_, by simpa using f.len⟩
  · have heq : ((List.range Γ.length).filterMap fun j => if (listed.setIfInBounds i true).getD j false then (match Γ[j]? with | some (.al tok) => some (tok (σ j)) | _ => none) else none) = ((List.range Γ.length).filterMap fun i => if listed.getD i false then (match Γ[i]? with | some (.al tok) => some (tok (σ i)) | _ => none) else none) := by
      apply fm_congr
      intro j _
      by_cases hji : i = j
      · subst hji
        rcases hp with hp | hp <;> simp [hp]
      · rw [getD_set_ne false hji]
    rw [heq]; exact s
  · rw [hput, if_neg (fun h => by subst h; rw [hρ] at hq; cases hq)]
    exact q.mono hm (f.old t q hq)
  · by_cases hji : i = j
    · subst hji
      refine ⟨hi, fun q hq => ?_, fun tok ht => ?_⟩
      · rw [hput, if_pos rfl]
        have : q = p := by
          rcases hp with hp | hp <;> rcases hq with hq | hq <;> rw [hp] at hq <;> simp at hq <;> first | exact hq.symm | exact hq
        rw [this]; exact hv
      · rcases hp with hp | hp <;> rw [hp] at ht <;> cases ht
    · rw [getD_set_ne false hji] at hj
      obtain ⟨h1, h2, h3⟩ := f.new j hj
      have hne : dstOf ops i ≠ dstOf ops j := fun h => hji (ck.inj i j hi h1 h)
      refine ⟨h1, fun q hq => ?_, fun tok ht => ?_⟩
      · rw [hput, if_neg hne]; exact q.mono hm (h2 q hq)
      · rw [hput, if_neg hne]; exact h3 tok ht
  · by_cases hji : i = j
    · subst hji; exact getD_set_true (hdep l hl)
    · rw [getD_set_ne false hji] at hj
      exact getD_set_true (f.closed j hj l hl)
theorem Far.al {Γ : List Pl} {lates : List Bool} (ck : Chk C.N ops ρ Γ lates) {listed : Array Bool} {m m' : Mem} {σ : Nat → Nat} {a : Act} {w w' : World} (f : Far C ops ρ L0 Γ listed m σ a w) {i : Nat} (hi : i < Γ.length) (hn : listed.getD i true = false) (hdep : ∀ j ∈ deps ops i, listed.getD j false = true) {tok : Nat → OB} (hp : Γ[i]? = some (.al tok)) {b : Nat} (hm : Mem.le m m')
    (s : Sat C m' w' (tok b :: (((List.range Γ.length).filterMap fun i => if listed.getD i false then (match Γ[i]? with | some (.al tok) => some (tok (σ i)) | _ => none) else none) ++ L0))) : Far C ops ρ L0 Γ (listed.setIfInBounds i true) m' (fun j => if j = i then b else σ j) (a.put (some (dstOf ops i)) (.pointer (some ⟨b, 0, none⟩))) w' := by
  obtain ⟨o, ho, hd, hdN, hρ⟩ := ck.dst i hi
  have hput := fun t => putD (a := a) (d := dstOf ops i) (t := t) (v := .pointer (some ⟨b, 0, none⟩)) f.size hdN
  have his : i < listed.size := by
    rcases Nat.lt_or_ge i listed.size with h | h
    · exact h
    · simp [Array.getD_eq_getD_getElem?, Array.getElem?_eq_none h] at hn
  have hnf : listed.getD i false = false := by
    simp [Array.getD_eq_getD_getElem?, Array.getElem?_eq_getElem his] at hn ⊢; exact hn
  refine ⟨?_, f.defers, by simp [Act.put, f.size], fun t q hq => ?_, fun j hj => ?_, fun j hj l hl => ?_, by simpa using f.len⟩
  · refine s.perm ?_
    rw [← List.cons_append]
    exact (far_perm f.len hp hn).append_right L0
  · rw [hput, if_neg (fun h => by subst h; rw [hρ] at hq; cases hq)]
    exact q.mono hm (f.old t q hq)
  · by_cases hji : i = j
    · subst hji
      refine ⟨hi, fun q hq => ?_, fun tok' ht => ?_⟩
      · rcases hq with hq | hq <;> rw [hp] at hq <;> cases hq
      · rw [hput, if_pos rfl, if_pos rfl]
    · rw [getD_set_ne false hji] at hj
      obtain ⟨h1, h2, h3⟩ := f.new j hj
      have hne : dstOf ops i ≠ dstOf ops j := fun h => hji (ck.inj i j hi h1 h)
      refine ⟨h1, fun q hq => ?_, fun tok' ht => ?_⟩
      · rw [hput, if_neg hne]; exact q.mono hm (h2 q hq)
      · rw [hput, if_neg hne, if_neg (Ne.symm hji)]; exact h3 tok' ht
  · by_cases hji : i = j
    · subst hji; exact getD_set_true (hdep l hl)
    · rw [getD_set_ne false hji] at hj
      exact getD_set_true (f.closed j hj l hl)

theorem allEnv_get {σ : Nat → Nat} : ∀ (Γ : List Pl) (i t : Nat) (p : VP), (allEnv ops σ i Γ).get t = some p → ∃ j, i ≤ j ∧ j < i + Γ.length ∧ dstOf ops j = t ∧ (Γ[j - i]? = some (.fr p) ∨ Γ[j - i]? = some (.lt p) ∨ (∃ tok, Γ[j - i]? = some (.al tok)) ∧ p = VP.ex (.pointer (some ⟨σ j, 0, none⟩)))
  | [], i, t, p, h => by cases h
  | x :: Γ, i, t, p, h => by
    have hrec : (allEnv ops σ (i + 1) Γ).get t = some p → ∃ j, i ≤ j ∧ j < i + (x :: Γ).length ∧ dstOf ops j = t ∧ ((x :: Γ)[j - i]? = some (.fr p) ∨ (x :: Γ)[j - i]? = some (.lt p) ∨ (∃ tok, (x :: Γ)[j - i]? = some (.al tok)) ∧ p = VP.ex (.pointer (some ⟨σ j, 0, none⟩))) := fun h => by
      obtain ⟨j, h1, h2, h3, h4⟩ := allEnv_get Γ (i + 1) t p h
      refine ⟨j, by omega, by simp; omega, h3, ?_⟩
      rw [show j - i = j - (i + 1) + 1 from by omega]
      simpa using h4
    have hcons : ∀ q, (x = .fr q ∨ x = .lt q ∨ (∃ tok, x = .al tok) ∧ q = VP.ex (.pointer (some ⟨σ i, 0, none⟩))) → Env.get ((dstOf ops i, q) :: allEnv ops σ (i + 1) Γ) t = some p → ∃ j, i ≤ j ∧ j < i + (x :: Γ).length ∧ dstOf ops j = t ∧ ((x :: Γ)[j - i]? = some (.fr p) ∨ (x :: Γ)[j - i]? = some (.lt p) ∨ (∃ tok, (x :: Γ)[j - i]? = some (.al tok)) ∧ p = VP.ex (.pointer (some ⟨σ j, 0, none⟩))) := fun q hq h => by
      simp only [Env.get] at h
      cases hb : Nat.beq (dstOf ops i) t with
      | true =>
        have := Nat.eq_of_beq_eq_true hb
        simp only [hb, cond_true, Option.some.injEq] at h
        subst h
        refine ⟨i, Nat.le_refl _, by simp, this, ?_⟩
        simpa using hq
      | false => simp only [hb, cond_false] at h; exact hrec h
    cases x with
    | fr q => exact hcons q (.inl rfl) h
    | lt q => exact hcons q (.inr (.inl rfl)) h
    | al tok => exact hcons _ (.inr (.inr ⟨⟨tok, rfl⟩, rfl⟩)) h
theorem allToks_eq (σ : Nat → Nat) : ∀ (Γ : List Pl) (i : Nat), allToks σ i Γ = ((List.range Γ.length).filterMap fun j => match Γ[j]? with | some (Pl.al tok) => some (tok (σ (i + j))) | _ => none)
  | [], i => rfl
  | x :: Γ, i => by
    rw [List.length_cons, List.range_succ_eq_map, List.filterMap_cons, List.filterMap_map]
    have h := allToks_eq σ Γ (i + 1)
    have hf : ((fun j => match (x :: Γ)[j]? with | some (.al tok) => some (tok (σ (i + j))) | _ => none) ∘ Nat.succ) = (fun j => match Γ[j]? with | some (.al tok) => some (tok (σ (i + 1 + j))) | _ => none) := by
      funext j
      simp only [Function.comp, Nat.succ_eq_add_one, List.getElem?_cons_succ]
      rw [show i + (j + 1) = i + 1 + j from by omega]
    rw [hf, ← h]
    cases x <;> simp [allToks]

def cnt (ops : Array Oper) (listed : Array Bool) : Nat := ((List.range ops.size).filter fun i => listed.getD i false).length
theorem cnt_set {listed : Array Bool} (hlen : listed.size = ops.size) {i : Nat} (hi : i < ops.size) (hn : listed.getD i true = false) : cnt ops (listed.setIfInBounds i true) = cnt ops listed + 1 := by
  have hnf : listed.getD i false = false := by
    simp [Array.getD_eq_getD_getElem?, Array.getElem?_eq_getElem (show i < listed.size by omega)] at hn ⊢; exact hn
  unfold cnt
  have hgen : ∀ l : List Nat, l.Nodup → i ∈ l → (l.filter fun j => (listed.setIfInBounds i true).getD j false).length = (l.filter fun j => listed.getD j false).length + 1 := by
    intro l
    induction l with
    | nil => intro _ h; cases h
    | cons x l ih =>
      intro hnd hmem
      rw [List.nodup_cons] at hnd
      by_cases hx : i = x
      · subst hx
        have h1 : (listed.setIfInBounds i true).getD i false = true := by
          simp [Array.getD_eq_getD_getElem?, Array.getElem?_setIfInBounds, hlen, hi]
        rw [List.filter_cons_of_pos (by simpa using h1), List.filter_cons_of_neg (by simp [hnf])]
        have : (l.filter fun j => (listed.setIfInBounds i true).getD j false) = (l.filter fun j => listed.getD j false) := by
          apply List.filter_congr
          intro j hj
          rw [getD_set_ne false (fun h => by subst h; exact hnd.1 hj)]
        rw [List.length_cons, this]
      · have := ih hnd.2 ((List.mem_cons.1 hmem).resolve_left hx)
        have hg := getD_set_ne (listed := listed) false hx
        cases hb : listed.getD x false with
        | true =>
          rw [List.filter_cons_of_pos (by rw [hg]; exact hb), List.filter_cons_of_pos (by exact hb), List.length_cons, List.length_cons, this]
        | false =>
          rw [List.filter_cons_of_neg (by rw [hg]; simp [hb]), List.filter_cons_of_neg (by simp [hb])]
          exact this
  exact hgen _ List.nodup_range (List.mem_range.2 hi)
theorem cnt_full {listed : Array Bool} (hlen : listed.size = ops.size) (h : cnt ops listed = ops.size) (i : Nat) (hi : i < ops.size) : listed.getD i false = true := by
  unfold cnt at h
  have h2 : ((List.range ops.size).filter fun i => listed.getD i false) = List.range ops.size := by
    apply (List.filter_sublist).eq_of_length
    simpa using h
  have := List.filter_eq_self.1 h2 i (List.mem_range.2 hi)
  simpa using this
theorem least_not {p : Nat → Prop} {n : Nat} (h : ¬ ∀ i, i < n → p i) : ∃ i, i < n ∧ ¬ p i ∧ ∀ j, j < i → j < n → p j := by
  have h' : ∃ i, i < n ∧ ¬ p i := by
    apply Classical.byContradiction
    intro hc
    exact h fun i hi => Classical.byContradiction fun hp => hc ⟨i, hi, hp⟩
  obtain ⟨i, hi, hmin⟩ := exists_least h'
  exact ⟨i, hi.1, hi.2, fun j hj hjn => Classical.byContradiction fun hp => by have := hmin j ⟨hjn, hp⟩; omega⟩
theorem draw_done {Γ : List Pl} {lates : List Bool} (ck : Chk C.N ops ρ Γ lates) (h : ∀ σ, WP C ops Q (ops.toList.drop Γ.length) (allEnv ops σ 0 Γ ++ ρ) (allToks σ 0 Γ ++ L0)) {listed : Array Bool} {m : Mem} {σ : Nat → Nat} {a : Act} {w : World} (f : Far C ops ρ L0 Γ listed m σ a w) (hall : ∀ i, i < Γ.length → listed.getD i false = true) {fuel : Nat} (hc : cnt ops listed + fuel = ops.size) : wpAny C.P .any ops Q fuel listed a w := by
  have hpre : ∀ i, i < ops.size → listed.getD i false = decide (i < Γ.length) := fun i hi => by
    by_cases hil : i < Γ.length
    · rw [hall i hil]; simp [hil]
    · cases hb : listed.getD i false with
      | false => simp [hil]
      | true => exact absurd (f.new i hb).1 hil
  have hcnt : cnt ops listed = Γ.length := by
    unfold cnt
    rw [List.filter_congr (q := fun i => decide (i < Γ.length)) (fun i hi => hpre i (List.mem_range.1 hi))]
    have hle := ck.le
    have : List.range ops.size = List.range Γ.length ++ List.range' Γ.length (ops.size - Γ.length) := by
      rw [List.range_eq_range', List.range_eq_range', show ops.size = Γ.length + (ops.size - Γ.length) from by omega, ← List.range'_append]
      simp
    rw [this, List.filter_append, List.filter_eq_self.2 (fun i hi => by simpa using List.mem_range.1 hi), List.filter_eq_nil_iff.2 (fun i hi => by have := List.mem_range'_1.1 hi; simp; omega)]
    simp
  refine wpAny_seq ck.lt Γ.length ck.chain fuel Γ.length listed a w (Nat.le_refl _) (by omega) f.len hpre (h σ m w a ?_ ?_)
  · rw [allToks_eq]
    have : ((List.range Γ.length).filterMap fun i => if listed.getD i false then (match Γ[i]? with | some (.al tok) => some (tok (σ i)) | _ => none) else none) = ((List.range Γ.length).filterMap fun j => match Γ[j]? with | some (Pl.al tok) => some (tok (σ (0 + j))) | _ => none) := by
      apply fm_congr
      intro i hi
      rw [hall i (List.mem_range.1 hi)]
      simp
    rw [← this]
    exact f.sat
  · refine ⟨f.defers, f.size, fun t p hp => ?_⟩
    rw [Env.get_append] at hp
    cases h1 : (allEnv ops σ 0 Γ).get t with
    | some q =>
      rw [h1] at hp
      simp only [Option.some_or, Option.some.injEq] at hp
      subst hp
      obtain ⟨j, h2, h3, h4, h5⟩ := allEnv_get Γ 0 t q h1
      simp only [Nat.sub_zero] at h5
      obtain ⟨g1, g2, g3⟩ := f.new j (hall j (by omega))
      rw [← h4]
      rcases h5 with h5 | h5 | ⟨⟨tok, h5⟩, rfl⟩
      · exact g2 _ (.inl h5)
      · exact g2 _ (.inr h5)
      · exact g3 tok h5
    | none => rw [h1] at hp; exact f.old t p (by simpa using hp)

/-- The region. -/
theorem CW.draw {id : Nat} {Γ : List Pl} {lates : List Bool} (hm : C.P.follows .mixedOrders = true) (ck : Chk C.N ops ρ Γ lates) (hQ : ∀ c (a : Act) d v w, Q (.panic c) (a.put (some d) v) w → Q (.panic c) a w)
    (ob : ∀ i x, Γ[i]? = some x → Ob C ops Q ρ L0 Γ i x)
    (h : ∀ σ, WP C ops Q (ops.toList.drop Γ.length) (allEnv ops σ 0 Γ ++ ρ) (allToks σ 0 Γ ++ L0)) : CW C Q (.region id ops true) ρ L0 := by
  have key : ∀ (fuel : Nat) (listed : Array Bool) (m : Mem) (σ : Nat → Nat) (a : Act) (w : World), Far C ops ρ L0 Γ listed m σ a w → cnt ops listed + fuel = ops.size → wpAny C.P .any ops Q fuel listed a w := by
    intro fuel
    induction fuel with
    | zero =>
      intro listed m σ a w f hc
      exact draw_done ck h f (fun i hi => cnt_full f.len (by omega) i (by have := ck.le; omega)) hc
    | succ fuel ih =>
      intro listed m σ a w f hc
      by_cases hall : ∀ i, i < Γ.length → listed.getD i false = true
      · exact draw_done ck h f hall hc
      · have hun : ∀ i, i < ops.size → listed.getD i false = false → listed.getD i true = false := fun i hi hh => by
          have : i < listed.size := by rw [f.len]; exact hi
          simp [Array.getD_eq_getD_getElem?, Array.getElem?_eq_getElem this] at hh ⊢; exact hh
        by_cases hl : ∃ i, i < Γ.length ∧ lates.getD i false = true ∧ listed.getD i true = false ∧ ∀ j ∈ deps ops i, listed.getD j false = true
        · obtain ⟨i, hi, hlate, hn, hdep⟩ := hl
          have his : i < ops.size := Nat.lt_of_lt_of_le hi ck.le
          have hx : Γ[i]? = some Γ[i] := by simp [hi]
          have hlx : Γ[i].late = true := by
            have := ck.late
            rw [← this] at hlate
            simpa [List.getD, hx] using hlate
          cases hg : Γ[i] with
          | fr p => rw [hg] at hlx; cases hlx
          | al tok => rw [hg] at hlx; cases hlx
          | lt p =>
            rw [hg] at hx
            obtain ⟨o, v, ho, hy, hp⟩ := ob i _ hx m a (f.has hdep)
            obtain ⟨o', ho', hd, hdN, hρ⟩ := ck.dst i hi
            rw [ho] at ho'; cases ho'
            refine wpAny_first (v := v) ho (Region.noSelect_spec ck.sel) (fun c a w => by rw [hd]; exact hQ c a _ v w) fuel listed a w (fun j oj hj hji hjn hno => Region.free_spec ho (ck.free i hi hlate) j oj hj hji (by
              have hjs : j < ops.size := (Array.getElem?_eq_some_iff.1 hj).1
              have hnd : j ∉ deps ops i := fun hd => by
                have h1 := hdep j hd
                have h2 : j < listed.size := by rw [f.len]; exact hjs
                simp [Array.getD_eq_getD_getElem?, Array.getElem?_eq_getElem h2] at h1 hjn
                rw [h1] at hjn; cases hjn
              simpa [depArr, Array.getD_eq_getD_getElem?, hjs] using hnd) hno) (ready_deps his hn hdep) hy ?_
            rw [hd]
            exact ih _ m σ _ w (f.fr ck hi hn hdep (.inr hx) (Mem.le_refl m) f.sat hp) (by rw [cnt_set f.len his hn]; omega)
        · refine ⟨fun h0 => ?_, fun j hj => ?_⟩
          · exfalso
            obtain ⟨i, hi, hin, hmin⟩ := least_not hall
            have his : i < ops.size := Nat.lt_of_lt_of_le hi ck.le
            have := ready_deps his (hun i his (by simpa using hin)) (fun j hj => by
              have := ck.lt i his j hj
              exact hmin j this (by omega))
            rw [h0] at this; cases this
          · obtain ⟨hjn, o, ho, hall'⟩ := mem_ready.1 hj
            have hdep := deps_ready ho hall'
            have hjs : j < ops.size := (Array.getElem?_eq_some_iff.1 ho).1
            rcases Nat.lt_or_ge j Γ.length with hjl | hge
            · have hx : Γ[j]? = some Γ[j] := by simp [hjl]
              cases hg : Γ[j] with
              | fr p =>
                rw [hg] at hx
                exact ob j _ hx _ m w a f.sat (f.has hdep) _ (fun m' w' v hm s hp => ih _ m' σ _ w' (f.fr ck hjl hjn hdep (.inl hx) hm s hp) (by rw [cnt_set f.len hjs hjn]; omega))
              | lt p =>
                rw [hg] at hx
                exact absurd ⟨j, hjl, by rw [← ck.late]; simp [List.getD, hx, Pl.late], hjn, hdep⟩ hl
              | al tok =>
                rw [hg] at hx
                exact ob j _ hx _ m w a f.sat (f.has hdep) _ (fun m' w' b hm s => ih _ m' _ _ w' (f.al ck hjl hjn hdep hx hm s) (by rw [cnt_set f.len hjs hjn]; omega))
            · exfalso
              have hnl : ∀ i, i < Γ.length → lates.getD i false = false → listed.getD i false = true := fun i hi hli => reach_listed f.closed 12 j i hdep (ck.anc i hi hli j hge hjs)
              obtain ⟨i, hi, hin, hmin⟩ := least_not hall
              have his : i < ops.size := Nat.lt_of_lt_of_le hi ck.le
              refine hl ⟨i, hi, ?_, hun i his (by simpa using hin), fun l hll => hmin l (ck.lt i his l hll) (by have := ck.lt i his l hll; omega)⟩
              cases hli : lates.getD i false with
              | true => rfl
              | false => exact absurd (hnl i hi hli) hin
  intro m w a s t
  refine wp_region_any hm (key ops.size _ m (fun _ => 0) a _ ⟨?_, t.defers, t.size, t.get, fun i hi => ?_, fun i hi => ?_, by simp⟩ ?_)
  · have : ((List.range Γ.length).filterMap fun i => if (Array.replicate ops.size false).getD i false then (match Γ[i]? with | some (.al tok) => some (tok 0) | _ => none) else none) = ([] : List OB) := by
      rw [List.filterMap_eq_nil_iff]
      intro i hi
      simp [Array.getD_eq_getD_getElem?, Array.getElem?_replicate]
      intro h1
      split at h1 <;> simp at h1
    rw [this, List.nil_append]
    exact s.lift (Mem.le_refl m) s.fits ⟨rfl, rfl, rfl, Nat.le_refl _, fun _ _ _ => rfl⟩ (fun _ _ h => h)
  · simp [Array.getD_eq_getD_getElem?, Array.getElem?_replicate] at hi
    split at hi <;> simp at hi
  · simp [Array.getD_eq_getD_getElem?, Array.getElem?_replicate] at hi
    split at hi <;> simp at hi
  · have : cnt ops (Array.replicate ops.size false) = 0 := by
      unfold cnt
      rw [List.length_eq_zero_iff, List.filter_eq_nil_iff]
      intro i hi
      simp [Array.getD_eq_getD_getElem?, Array.getElem?_replicate]
      split <;> simp
    omega
end
end Fw
