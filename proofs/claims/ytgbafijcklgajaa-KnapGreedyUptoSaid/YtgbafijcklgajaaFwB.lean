/- The frame of the walks: the state (slots, owned blocks, immutable memory), the rules of control, calls and loops. -/
import Derived.Test.YtgbafijcklgajaaFwA
set_option linter.unusedVariables false
set_option linter.unusedSimpArgs false
namespace Fw
open Go

structure Ctx where
  P : Program
  N : Nat
  m0 : Mem
  w0 : World
  X : List Nat

abbrev Env := List (Nat × VP)
def Env.get : Env → Nat → Option VP
  | [], _ => none
  | (j, p) :: r, i => cond (Nat.beq j i) (some p) (Env.get r i)

def cv : Value → VP
  | .int k n => (kInt k).is n
  | .bool b => kBool.is b
  | v => VP.ex v
theorem cv_ok (m : Mem) (v : Value) : (cv v).p m v := by
  cases v <;> first | exact ⟨_, rfl, rfl⟩ | rfl
def ev (ρ : Env) : Operand → Option VP
  | .tmp t => ρ.get t
  | .const v => some (cv v)
  | .global g => some (VP.ex (.pointer (some ⟨g, 0, none⟩)))
  | .func f => some (VP.ex (.func (.func f) #[] #[]))

structure Has (N : Nat) (m : Mem) (a : Act) (ρ : Env) : Prop where
  defers : a.defers = []
  size : a.tmps.size = N
  get : ∀ i p, ρ.get i = some p → p.p m (a.tmps.getD i undef)

theorem Has.evl {N : Nat} {m : Mem} {a : Act} {ρ : Env} (h : Has N m a ρ) {x : Operand} {p : VP} (e : ev ρ x = some p) : p.p m (a.eval x) := by
  cases x with
  | tmp t => exact h.get t p e
  | const v => simp only [Fw.ev, Option.some.injEq] at e; subst e; exact cv_ok m v
  | global g => simp only [Fw.ev, Option.some.injEq] at e; subst e; rfl
  | func f => simp only [Fw.ev, Option.some.injEq] at e; subst e; rfl
theorem Has.up {N : Nat} {m m' : Mem} {a : Act} {ρ : Env} (h : Has N m a ρ) (hm : Mem.le m m') : Has N m' a ρ := ⟨h.defers, h.size, fun i p e => p.mono hm (h.get i p e)⟩
theorem Has.put {N : Nat} {m : Mem} {a : Act} {ρ : Env} (h : Has N m a ρ) {d : Nat} {v : Value} {p : VP} (hp : p.p m v) (hd : Nat.blt d N = true) : Has N m (a.put (some d) v) ((d, p) :: ρ) := by
  have hd' : d < N := by simpa [Nat.blt_eq] using hd
  refine ⟨h.defers, by simp [Act.put, h.size], fun i q e => ?_⟩
  simp only [Env.get] at e
  cases hb : Nat.beq d i with
  | true =>
    have := Nat.eq_of_beq_eq_true hb
    subst this
    simp only [hb, cond_true, Option.some.injEq] at e
    subst e
    simpa [Act.put, Array.getD_eq_getD_getElem?, Array.getElem?_setIfInBounds, h.size, hd'] using hp
  | false =>
    simp only [hb, cond_false] at e
    have hne : d ≠ i := fun hh => by subst hh; simp [Nat.beq_refl] at hb
    have := h.get i q e
    simpa [Act.put, Array.getD_eq_getD_getElem?, Array.getElem?_setIfInBounds, hne] using this
theorem Has.none {N : Nat} {m : Mem} {a : Act} {ρ : Env} (h : Has N m a ρ) (v : Value) : Has N m (a.put Option.none v) ρ := h
/-- What is put where nothing of it is told. -/
theorem Has.drop {N : Nat} {m : Mem} {a : Act} {ρ ρ' : Env} (h : Has N m a ρ) (hs : ∀ i p, ρ'.get i = some p → ρ.get i = some p) : Has N m a ρ' := ⟨h.defers, h.size, fun i p e => h.get i p (hs i p e)⟩

/-- w' is w but for new blocks and the blocks of X. -/
structure Grow (X : List Nat) (w w' : World) : Prop where
  os : w'.os = w.os
  tape : w'.tape = w.tape
  output : w'.output = w.output
  size : w.heap.size ≤ w'.heap.size
  block : ∀ k, k < w.heap.size → k ∉ X → w'.heap[k]? = w.heap[k]?
theorem Grow.refl (X : List Nat) (w : World) : Grow X w w := ⟨rfl, rfl, rfl, Nat.le_refl _, fun _ _ _ => rfl⟩
theorem Grow.trans {X Y : List Nat} {a b c : World} (h : Grow X a b) (k : Grow Y b c) (hY : ∀ g ∈ Y, a.heap.size ≤ g ∨ g ∈ X) : Grow X a c :=
  ⟨k.os.trans h.os, k.tape.trans h.tape, k.output.trans h.output, Nat.le_trans h.size k.size, fun i hi hx =>
    (k.block i (Nat.lt_of_lt_of_le hi h.size) (fun hy => by rcases hY i hy with h1 | h1; omega; exact hx h1)).trans (h.block i hi hx)⟩
theorem Grow.below {w w' : World} (h : Grow [] w w') : RowKit.Below w.heap.size w w' := ⟨h.os, h.tape, h.output, h.size, fun k hk => h.block k hk (by simp)⟩
theorem Grow.of_grownBy {w w' : World} {r : Option Nat} (h : w.grownBy w' r) : Grow r.toList w w' :=
  ⟨h.os, h.tape, h.output, h.size, fun k hk hx => h.block k hk (fun e => hx (by subst e; simp))⟩

def Fits (m : Mem) (w : World) : Prop := ∀ g c, m g = some c → ∃ A e f r, w.heap[g]? = some (.cells A e f) ∧ A.toList = c ++ r
theorem Fits.lt {m : Mem} {w : World} (h : Fits m w) {g : Nat} {c : List Value} (hg : m g = some c) : g < w.heap.size := by
  obtain ⟨A, e, f, r, h1, _⟩ := h g c hg
  exact (Array.getElem?_eq_some_iff.1 h1).1
theorem Fits.grow {m : Mem} {w w' : World} {X : List Nat} (h : Fits m w) (g : Grow X w w') (hX : ∀ g ∈ X, m g = none) : Fits m w' := fun b c hb => by
  obtain ⟨A, e, f, r, h1, h2⟩ := h b c hb
  refine ⟨A, e, f, r, ?_, h2⟩
  rw [g.block b (h.lt hb) (fun hx => by rw [hX b hx] at hb; cases hb)]
  exact h1
/-- A cell that is known. -/
theorem Fits.cell {m : Mem} {w : World} (h : Fits m w) {g : Nat} {c : List Value} (hg : m g = some c) {o : Nat} {v : Value} (hv : c[o]? = some v) : w.cell? ⟨g, o, none⟩ = some v := by
  obtain ⟨A, e, f, r, h1, h2⟩ := h g c hg
  have hlt : o < c.length := (List.getElem?_eq_some_iff.1 hv).1
  simp only [World.cell?, h1]
  rw [if_neg (by simp), ← Array.getElem?_toList, h2, List.getElem?_append_left hlt, hv]

/-- An owned block, or none. -/
structure OB where
  ids : List Nat
  p : Mem → World → Prop
  mono : ∀ {m m' : Mem} {w w' : World}, Mem.le m m' → (∀ g ∈ ids, w'.heap[g]? = w.heap[g]?) → p m w → p m' w'

/-- A variable in memory. -/
def OB.box {α : Type} (g : Nat) (e : TypeId) (k : Kd α) (x : α) : OB where
  ids := [g]
  p m w := ∃ A : Array Value, w.heap[g]? = some (.cells A e (0, 0)) ∧ k.at' m A.toList x
  mono := by
    rintro m m' w w' hm hg ⟨A, h1, h2⟩
    exact ⟨A, by rw [hg g (by simp)]; exact h1, k.mono hm h2⟩
theorem ownsRow_same {w w' : World} {b : Nat} {e : TypeId} {s : Nat} {v : Value} {n : Nat} {xs : List Value} (h : w.ownsRow b e s v n xs) (hg : ∀ g ∈ v.ownBlock.toList, w'.heap[g]? = w.heap[g]?) : w'.ownsRow b e s v n xs := by
  refine ⟨h.1, ?_⟩
  rcases h.2 with h | ⟨g, cap, cur, rfl, h1, h2, h3⟩
  · exact .inl h
  · exact .inr ⟨g, cap, cur, rfl, h1, by rw [hg g (by simp [Value.ownBlock])]; exact h2, h3⟩
/-- A slice of the call's own, from its block's beginning on; or nil. -/
def OB.row {α : Type} (v : Value) (e : TypeId) (k : Kd α) (xs : List α) : OB where
  ids := v.ownBlock.toList
  p m w := ∃ cells, w.ownsRow 0 e k.sz v xs.length cells ∧ Rows k m cells xs ∧ xs.length ≤ 1099511627776
  mono := by
    rintro m m' w w' hm hg ⟨cells, h1, h2, h3⟩
    exact ⟨cells, ownsRow_same h1 hg, h2.mono hm, h3⟩

structure Sat (C : Ctx) (m : Mem) (w : World) (L : List OB) : Prop where
  le : Mem.le C.m0 m
  fits : Fits m w
  grow : Grow C.X C.w0 w
  fresh : ∀ g, g < C.w0.heap.size → g ∉ C.X → C.m0 g = none → m g = none
  own : ∀ b ∈ L, b.p m w ∧ ∀ g ∈ b.ids, m g = none ∧ (C.w0.heap.size ≤ g ∨ g ∈ C.X) ∧ g < w.heap.size
  apart : L.Pairwise (fun a b => ∀ g ∈ a.ids, g ∉ b.ids)

theorem Sat.lift {C : Ctx} {m m' : Mem} {w w' : World} {L : List OB} (s : Sat C m w L) (hm : Mem.le m m') (hf : Fits m' w') (g : Grow [] w w') (hn : ∀ g, g < w.heap.size → m g = none → m' g = none) : Sat C m' w' L where
  le := Mem.le_trans s.le hm
  fits := hf
  grow := s.grow.trans g (by simp)
  fresh := fun i hi hx h0 => hn i (Nat.lt_of_lt_of_le hi s.grow.size) (s.fresh i hi hx h0)
  own := fun b hb => by
    obtain ⟨h1, h2⟩ := s.own b hb
    refine ⟨b.mono hm (fun i hi => g.block i (h2 i hi).2.2 (by simp)) h1, fun i hi => ?_⟩
    obtain ⟨h3, h4, h5⟩ := h2 i hi
    exact ⟨hn i h5 h3, h4, Nat.lt_of_lt_of_le h5 g.size⟩
  apart := s.apart
theorem Sat.sub {C : Ctx} {m : Mem} {w : World} {L L' : List OB} (s : Sat C m w L) (h : L'.Sublist L) : Sat C m w L' :=
  { s with own := fun b hb => s.own b (h.subset hb), apart := s.apart.sublist h }
theorem Sat.perm {C : Ctx} {m : Mem} {w : World} {L L' : List OB} (s : Sat C m w L) (h : L'.Perm L) : Sat C m w L' :=
  { s with
    own := fun b hb => s.own b (h.subset hb)
    apart := (h.symm.pairwise_iff (fun {a b} hh g hg hb => hh g hb hg)).1 s.apart }
/-- A new block. -/
theorem Sat.new {C : Ctx} {m : Mem} {w : World} {L : List OB} (s : Sat C m w L) {w' : World} (g : Grow [] w w') (b : OB) (hb : b.p m w') (hi : ∀ i ∈ b.ids, w.heap.size ≤ i ∧ i < w'.heap.size) : Sat C m w' (b :: L) := by
  have s' := s.lift (Mem.le_refl m) (s.fits.grow g (by simp)) g (fun _ _ h => h)
  refine { s' with own := fun c hc => ?_, apart := ?_ }
  · rcases List.mem_cons.1 hc with rfl | hc
    · refine ⟨hb, fun i h => ⟨?_, .inl (Nat.le_trans s.grow.size (hi i h).1), (hi i h).2⟩⟩
      cases hm : m i with
      | none => rfl
      | some c => have := s.fits.lt hm; have := hi i h; omega
    · exact s'.own c hc
  · refine List.pairwise_cons.2 ⟨fun c hc i h hh => ?_, s.apart⟩
    have := ((s.own c hc).2 i hh).2.2
    have := (hi i h).1
    omega
/-- The block at place j turns (and may move to a new place). -/
theorem Sat.turn {C : Ctx} {m : Mem} {w : World} {L : List OB} (s : Sat C m w L) {w' : World} (j : Nat) (b b' : OB) (hj : L[j]? = some b) (g : Grow b.ids w w') (hb : b'.p m w') (hi0 : ∀ i ∈ b'.ids, i ∈ b.ids ∨ (w.heap.size ≤ i ∧ i < w'.heap.size)) : Sat C m w' (L.set j b') := by
  obtain ⟨hlt, he⟩ := List.getElem?_eq_some_iff.1 hj
  have hmem : b ∈ L := by rw [← he]; exact List.getElem_mem hlt
  obtain ⟨h1, h2⟩ := s.own b hmem
  have hb' : ∀ i ∈ b'.ids, m i = none ∧ (C.w0.heap.size ≤ i ∨ i ∈ C.X) ∧ i < w'.heap.size := by
    intro i h
    rcases hi0 i h with h | h
    · obtain ⟨a1, a2, a3⟩ := h2 i h; exact ⟨a1, a2, Nat.lt_of_lt_of_le a3 g.size⟩
    · refine ⟨?_, .inl (Nat.le_trans s.grow.size h.1), h.2⟩
      cases hm : m i with
      | none => rfl
      | some c => have := s.fits.lt hm; omega
  have hsplit : L = L.take j ++ b :: L.drop (j + 1) := by
    rw [← he]; simp
  have hset : L.set j b' = L.take j ++ b' :: L.drop (j + 1) := by
    rw [List.set_eq_take_append_cons_drop, if_pos hlt]
  have hap := s.apart
  rw [hsplit, List.pairwise_append, List.pairwise_cons] at hap
  obtain ⟨p1, ⟨p2, p3⟩, p4⟩ := hap
  have hother : ∀ c, c ∈ L.take j ∨ c ∈ L.drop (j + 1) → (∀ i ∈ c.ids, i ∉ b.ids) ∧ c ∈ L := by
    intro c hc
    rcases hc with hc | hc
    · exact ⟨fun i hi hh => p4 c hc b (by simp) i hi hh, List.mem_of_mem_take hc⟩
    · exact ⟨fun i hi hh => p2 c hc i hh hi, List.mem_of_mem_drop hc⟩
  refine ⟨s.le, s.fits.grow g (fun i hi => (h2 i hi).1), s.grow.trans g (fun i hi => (h2 i hi).2.1), s.fresh, ?_, ?_⟩
  · intro c hc
    rw [hset] at hc
    have hcase : c = b' ∨ (c ∈ L.take j ∨ c ∈ L.drop (j + 1)) := by
      rcases List.mem_append.1 hc with hc | hc
      · exact .inr (.inl hc)
      · rcases List.mem_cons.1 hc with hc | hc
        · exact .inl hc
        · exact .inr (.inr hc)
    rcases hcase with rfl | hc
    · exact ⟨hb, hb'⟩
    · obtain ⟨d1, d2⟩ := hother c hc
      obtain ⟨e1, e2⟩ := s.own c d2
      refine ⟨c.mono (Mem.le_refl m) (fun i hi => g.block i (e2 i hi).2.2 (d1 i hi)) e1, fun i hi => ?_⟩
      obtain ⟨a1, a2, a3⟩ := e2 i hi
      exact ⟨a1, a2, Nat.lt_of_lt_of_le a3 g.size⟩
  · rw [hset, List.pairwise_append, List.pairwise_cons]
    refine ⟨p1, ⟨fun c hc i hi hh => ?_, p3⟩, fun c hc d hd i hi hh => ?_⟩
    · obtain ⟨d1, d2⟩ := hother c (.inr hc)
      rcases hi0 i hi with h | h
      · exact d1 i hh h
      · have := ((s.own c d2).2 i hh).2.2; omega
    · obtain ⟨d1, d2⟩ := hother c (.inl hc)
      rcases List.mem_cons.1 hd with rfl | hd
      · rcases hi0 i hh with h | h
        · exact d1 i hi h
        · have := ((s.own c d2).2 i hi).2.2; omega
      · exact p4 c hc d (List.mem_cons_of_mem _ hd) i hi hh
end Fw
