/- The frame of the walks: freezing, slicing, literals of structs and slices, parts of values, copies. -/
import Derived.Test.YtgbafijcklgajaaFwE
set_option linter.unusedVariables false
set_option linter.unusedSimpArgs false
namespace Fw
open Go

section
variable {C : Ctx} {Q : Exit → Act → World → Prop} {ρ ρ' : Env} {L L' : List OB} {ops : Array Oper} {rest : List Oper}
  {dst : Option Tmp} {ty : TypeId} {pos : String} {after : Array Edge} {g : Option (Nat × Bool)}

/-- What an env tells when moreover the value v reads as q. -/
def FImp (v : Value) (q : VP) (ρ ρ' : Env) : Prop := ∀ (N : Nat) (m : Mem) (a : Act), q.p m v → Has N m a ρ → Has N m a ρ'
theorem FImp.nil {v : Value} {q : VP} : FImp v q ρ [] := fun N m a _ h => ⟨h.defers, h.size, fun i p e => by cases e⟩
theorem Has.consH {N : Nat} {m : Mem} {a : Act} {i : Nat} {p : VP} (h : Has N m a ρ) (hp : p.p m (a.tmps.getD i undef)) : Has N m a ((i, p) :: ρ) := ⟨h.defers, h.size, fun j q hq => by
  simp only [Env.get] at hq
  cases hb : Nat.beq i j with
  | true =>
    have := Nat.eq_of_beq_eq_true hb
    subst this
    simp only [hb, cond_true, Option.some.injEq] at hq
    subst hq
    exact hp
  | false => simp only [hb, cond_false] at hq; exact h.get j q hq⟩
theorem FImp.keep {v : Value} {q : VP} {i : Nat} {p : VP} (e : ρ.get i = some p) (h : FImp v q ρ ρ') : FImp v q ρ ((i, p) :: ρ') := fun N m a hq t => (h N m a hq t).consH (t.get i p e)
theorem FImp.hit {v : Value} {q : VP} {i : Nat} (e : ρ.get i = some (VP.ex v)) (h : FImp v q ρ ρ') : FImp v q ρ ((i, q) :: ρ') := fun N m a hq t => (h N m a hq t).consH (by
  have : a.tmps.getD i undef = v := t.get i _ e
  rw [this]; exact hq)
theorem FImp.all {v : Value} {q : VP} {i : Nat} (e : ρ.get i = some (VP.ex v)) : FImp v q ρ ((i, q) :: ρ) := FImp.hit e (fun _ _ _ _ h => h)
/-- A slice of the call's own is told as read-only from now on. -/
theorem ST.freeze {α : Type} {K : Act → World → Prop} {k : Kd α} {xs : List α} {v : Value} {e : TypeId} (j : Nat) (hj : L[j]? = some (OB.row v e k xs)) (hi : FImp v ((kSl k).is xs) ρ ρ') (h : ST C K ρ' (L.eraseIdx j)) : ST C K ρ L := fun m w a s t => by
  obtain ⟨cells, o1, o2, o3⟩ := row_own s (List.mem_of_getElem? hj)
  rcases o1.2 with ⟨rfl, hn⟩ | ⟨b, cap, cur, rfl, _, hA, hcap, hm, hsz, hcur⟩
  · have hxs : xs = [] := List.eq_nil_of_length_eq_zero hn
    subst hxs
    exact h m w a (s.sub (List.eraseIdx_sublist L j)) (hi _ m a ⟨_, rfl, none, 0, rfl, by simp, by simp, .inl rfl⟩ t)
  · have hsplit : cur.toList = cells ++ cur.toList.drop (xs.length * k.sz) := by rw [← hcur, List.take_append_drop]
    obtain ⟨h1, h2⟩ := s.free hj (i := b) (by simp [OB.row, Value.ownBlock]) hA hsplit
    refine h _ w a h2 (hi _ _ a ⟨_, rfl, some ⟨b, 0, none⟩, cap, rfl, o3, hcap, .inr ⟨b, 0, cells, cells, rfl, by simp [Mem.add], ⟨[], [], by simp, rfl⟩, o2.mono h1⟩⟩ (t.up h1))

/-! ### Slicing what is read -/
theorem sl_cut {α : Type} {k : Kd α} {xs : List α} {m : Mem} {a : Option Addr} {cap l h mx : Nat} (hlim : xs.length ≤ 1099511627776) (hcap : xs.length ≤ cap) (hr : xs = [] ∨ ∃ g o c cells, a = some ⟨g, o, none⟩ ∧ m g = some c ∧ Sub c o cells ∧ Rows k m cells xs) (h1 : l ≤ h) (h2 : h ≤ xs.length) (h3 : h ≤ mx) : ((kSl k).is ((xs.take h).drop l)).p m (.slice (if mx = l then a else a.map (·.add (l * k.sz))) (h - l) (mx - l)) := by
  have hlen : ((xs.take h).drop l).length = h - l := by simp; omega
  refine ⟨_, rfl, _, mx - l, by rw [hlen], by rw [hlen]; omega, by rw [hlen]; omega, ?_⟩
  by_cases hh : h = l
  · left; subst hh; simp
  rcases hr with rfl | ⟨g, o, c, cells, rfl, e2, e3, e4⟩
  · left; simp
  · right
    have r1 := e4.take h
    have r2 := r1.drop l
    have hc := e4.len
    have e5 : ((xs.take h).take l).length * k.sz = l * k.sz := by
      congr 1; simp; omega
    have e6 : (xs.take h).length * k.sz = h * k.sz := by
      congr 1; simp; omega
    rw [e6, e5] at r2
    rw [if_neg (by omega)]
    refine ⟨g, o + l * k.sz, c, _, by simp [Addr.add_lit], e2, ?_, r2⟩
    rw [List.drop_take]
    refine e3.sub (l * k.sz) (h * k.sz - l * k.sz) ?_
    have : l * k.sz ≤ h * k.sz := Nat.mul_le_mul_right _ h1
    have : h * k.sz ≤ xs.length * k.sz := Nat.mul_le_mul_right _ h2
    omega
theorem run_slice {P : Program} {T e : TypeId} {agg : Bool} {sz : Nat} (hu : P.underlying T = some (.slice e)) (ht : TyOk P e agg sz) (w : World) (a : Option Addr) (n cap l h mx : Nat) (lo hi mo : Option Value) (hb : (Instr.sliceBounds true n cap lo hi mo).run P w = .ok (l, h, mx) w) : (Instr.sliceAt T (.slice a n cap) lo hi mo).run P w = .ok (.slice (if mx = l then a else a.map (·.add (l * sz))) (h - l) (mx - l)) w := by
  simp [Instr.sliceAt, run_underlying hu, Instr.slice, hb, run_sizeOf ht]
theorem run_bound {P : Program} (w : World) (k : IntKind) (i y : Nat) (c : BoundsCode) (h : i ≤ y) : (Instr.sliceBound (.int k (i : Int)) y c).run P w = .ok i w := by
  simp [Instr.sliceBound, asIntOf, h]
section
variable {α : Type} {k : Kd α} {xs : List α} {x y z u : Operand} {ki kj kk : IntKind} {n n' n'' : Int} {T e : TypeId} {agg : Bool}
theorem O.slH (h : Nat) (hx : ev ρ x = some ((kSl k).is xs)) (hy : ev ρ y = some ((kInt ki).is n)) (hu : C.P.underlying T = some (.slice e)) (ht : TyOk C.P e agg k.sz) (hn : n = h) (hle : h ≤ xs.length) : OpOk C ⟨dst, .slice T x none (some y) none, ty, pos, after, g⟩ ρ L ((kSl k).is (xs.take h)) L := OpOk.val fun m w f s t => by
  subst hn
  obtain ⟨a, cap, e1, e2, e3, e4⟩ := Kd.is_sl (t.evl hx)
  have hb : (Instr.sliceBounds true xs.length cap none (some (.int ki (h : Int))) none).run C.P w = .ok (0, h, cap) w := by
    simp [Instr.sliceBounds, run_bound (P := C.P) w ki h cap _ (Nat.le_trans hle e3)]
  have := sl_cut (k := k) (m := m) (a := a) (cap := cap) (l := 0) (h := h) (mx := cap) e2 e3 e4 (Nat.zero_le _) hle (by omega)
  rw [List.drop_zero] at this
  exact ⟨_, by simp only [execOp, e1, t.int hy, Option.map_some, Option.map_none, Sem.run_bind, run_slice hu ht w a xs.length cap 0 h cap _ _ _ hb, Result.andThen_ok]; rfl, this⟩
theorem O.slL (l : Nat) (hx : ev ρ x = some ((kSl k).is xs)) (hy : ev ρ y = some ((kInt ki).is n)) (hu : C.P.underlying T = some (.slice e)) (ht : TyOk C.P e agg k.sz) (hn : n = l) (hle : l ≤ xs.length) : OpOk C ⟨dst, .slice T x (some y) none none, ty, pos, after, g⟩ ρ L ((kSl k).is (xs.drop l)) L := OpOk.val fun m w f s t => by
  subst hn
  obtain ⟨a, cap, e1, e2, e3, e4⟩ := Kd.is_sl (t.evl hx)
  have hb : (Instr.sliceBounds true xs.length cap (some (.int ki (l : Int))) none none).run C.P w = .ok (l, xs.length, cap) w := by
    simp [Instr.sliceBounds, run_bound (P := C.P) w ki l xs.length _ hle]
  have := sl_cut (k := k) (m := m) (a := a) (cap := cap) (l := l) (h := xs.length) (mx := cap) e2 e3 e4 hle (Nat.le_refl _) e3
  rw [List.take_length] at this
  exact ⟨_, by simp only [execOp, e1, t.int hy, Option.map_some, Option.map_none, Sem.run_bind, run_slice hu ht w a xs.length cap l xs.length cap _ _ _ hb, Result.andThen_ok]; rfl, this⟩
theorem O.slLH (l h : Nat) (hx : ev ρ x = some ((kSl k).is xs)) (hy : ev ρ y = some ((kInt ki).is n)) (hz : ev ρ z = some ((kInt kj).is n')) (hu : C.P.underlying T = some (.slice e)) (ht : TyOk C.P e agg k.sz) (hn : n = l) (hn' : n' = h) (hlh : l ≤ h) (hle : h ≤ xs.length) : OpOk C ⟨dst, .slice T x (some y) (some z) none, ty, pos, after, g⟩ ρ L ((kSl k).is ((xs.take h).drop l)) L := OpOk.val fun m w f s t => by
  subst hn hn'
  obtain ⟨a, cap, e1, e2, e3, e4⟩ := Kd.is_sl (t.evl hx)
  have hb : (Instr.sliceBounds true xs.length cap (some (.int ki (l : Int))) (some (.int kj (h : Int))) none).run C.P w = .ok (l, h, cap) w := by
    simp [Instr.sliceBounds, run_bound (P := C.P) w ki l h _ hlh, run_bound (P := C.P) w kj h cap _ (Nat.le_trans hle e3)]
  have := sl_cut (k := k) (m := m) (a := a) (cap := cap) (l := l) (h := h) (mx := cap) e2 e3 e4 hlh hle (by omega)
  exact ⟨_, by simp only [execOp, e1, t.int hy, t.int hz, Option.map_some, Option.map_none, Sem.run_bind, run_slice hu ht w a xs.length cap l h cap _ _ _ hb, Result.andThen_ok]; rfl, this⟩
/-- x[:h:h] -/
theorem O.sl3 (h : Nat) (hx : ev ρ x = some ((kSl k).is xs)) (hy : ev ρ y = some ((kInt ki).is n)) (hz : ev ρ z = some ((kInt kj).is n')) (hu : C.P.underlying T = some (.slice e)) (ht : TyOk C.P e agg k.sz) (hn : n = h) (hn' : n' = h) (hle : h ≤ xs.length) : OpOk C ⟨dst, .slice T x none (some y) (some z), ty, pos, after, g⟩ ρ L ((kSl k).is (xs.take h)) L := OpOk.val fun m w f s t => by
  subst hn hn'
  obtain ⟨a, cap, e1, e2, e3, e4⟩ := Kd.is_sl (t.evl hx)
  have hb : (Instr.sliceBounds true xs.length cap none (some (.int ki (h : Int))) (some (.int kj (h : Int)))).run C.P w = .ok (0, h, h) w := by
    simp [Instr.sliceBounds, run_bound (P := C.P) w ki h h _ (Nat.le_refl _), run_bound (P := C.P) w kj h cap _ (Nat.le_trans hle e3)]
  have := sl_cut (k := k) (m := m) (a := a) (cap := cap) (l := 0) (h := h) (mx := h) e2 e3 e4 (Nat.zero_le _) hle (Nat.le_refl _)
  rw [List.drop_zero] at this
  exact ⟨_, by simp only [execOp, e1, t.int hy, t.int hz, Option.map_some, Option.map_none, Sem.run_bind, run_slice hu ht w a xs.length cap 0 h h _ _ _ hb, Result.andThen_ok]; rfl, this⟩
end

/-! ### Literals of structs and arrays -/
theorem foldl_set : ∀ (l : List Value) (i off : Nat) (A : Array Value), off + i + l.length ≤ A.size → ((l.zipIdx i).foldl (fun cs p => cs.setIfInBounds (off + p.2) p.1) A).toList = A.toList.take (off + i) ++ l ++ A.toList.drop (off + i + l.length)
  | [], i, off, A, h => by simp
  | c :: l, i, off, A, h => by
    simp only [List.length_cons] at h
    rw [List.zipIdx_cons, List.foldl_cons, foldl_set l (i + 1) off _ (by simp; omega)]
    simp only [Array.toList_setIfInBounds]
    have e := list_seg_step A.toList (off + i) c l (by simp; omega)
    simpa [Nat.add_assoc, Nat.add_comm 1] using e
/-- The parts of a literal, one into the other. -/
inductive BP {α : Type} (k : Kd α) (pl : Nat → Option (Nat × Nat)) : List (Nat × VP) → α → α → Prop
  | nil (x : α) : BP k pl [] x x
  | cons {β : Type} {i off : Nat} {l : Kd β} {gt : α → β} {st : β → α → α} {y : β} {r : List (Nat × VP)} {x z : α} (hp : pl i = some (off, l.sz)) (ln : Lens k off l gt st) (h : BP k pl r (st y x) z) : BP k pl ((i, l.is y) :: r) x z
theorem fill_ok {α : Type} {k : Kd α} {pl : Nat → Option (Nat × Nat)} {m : Mem} {ps : List (Nat × VP)} {x z : α} (h : BP k pl ps x z) : ∀ {vs : List (Nat × Value)} {A : Array Value}, vs.map (·.1) = ps.map (·.1) → Args m (vs.map (·.2)) (ps.map (·.2)) → k.at' m A.toList x → ∃ B, Instr.fill pl A vs = some B ∧ k.at' m B.toList z := by
  induction h with
  | nil x => intro vs A h1 h2 h3; cases vs with
    | nil => exact ⟨A, rfl, h3⟩
    | cons _ _ => cases h1
  | @cons β i0 off l gt st y r x z hp ln _ ih =>
    intro vs A h1 h2 h3
    cases vs with
    | nil => cases h1
    | cons v vs =>
      obtain ⟨i, v⟩ := v
      simp only [List.map_cons, List.cons.injEq] at h1
      obtain ⟨rfl, h1⟩ := h1
      obtain ⟨⟨cs, rfl, hcs⟩, h2⟩ := h2
      have hsz := Kd.cells_val _ hcs
      have hl := Kd.len _ hcs
      have hA := Kd.len _ h3
      have hfit := ln.fit
      have hA' : A.size = k.sz := by simpa using hA
      have hset := ln.set h3 hcs
      have hfold := foldl_set cs 0 off A (by rw [hl, Nat.add_zero, hA']; exact hfit)
      rw [Nat.add_zero, hl] at hfold
      rw [← hfold] at hset
      obtain ⟨B, hB, hz⟩ := ih h1 h2 hset
      refine ⟨B, ?_, hz⟩
      simp only [Instr.fill, hp, hsz]
      rw [if_neg (by simp [hl]; omega)]
      rw [← hB]
      congr 1
      rw [← Array.foldl_toList, Array.toList_zipIdx]
/-- The type of a literal: where its parts lie, its zero. -/
def LitOk {α : Type} (P : Program) (T : TypeId) (k : Kd α) (pl : Nat → Option (Nat × Nat)) (z : α) : Prop := ∃ A : Array Value, (∀ parts, P.built T parts = Instr.fill pl A parts) ∧ ∀ m, k.at' m A.toList z
def evp (ρ : Env) : List (Nat × Operand) → List (Nat × VP) → Prop
  | [], [] => True
  | (i, x) :: xs, (j, p) :: ps => i = j ∧ (∃ q, ev ρ x = some q ∧ VP.le q p) ∧ evp ρ xs ps
  | _, _ => False
theorem evp.n : evp ρ [] [] := trivial
theorem evp.c {i : Nat} {x : Operand} {xs : List (Nat × Operand)} {p : VP} {ps : List (Nat × VP)} (h : ev ρ x = some p) (r : evp ρ xs ps) : evp ρ ((i, x) :: xs) ((i, p) :: ps) := ⟨rfl, ⟨p, h, VP.le_refl p⟩, r⟩
theorem evp.l {i : Nat} {x : Operand} {xs : List (Nat × Operand)} {p q : VP} {ps : List (Nat × VP)} (h : ev ρ x = some q) (l : VP.le q p) (r : evp ρ xs ps) : evp ρ ((i, x) :: xs) ((i, p) :: ps) := ⟨rfl, ⟨q, h, l⟩, r⟩
theorem evp.args {N : Nat} {m : Mem} {a : Act} (t : Has N m a ρ) : ∀ {xs : List (Nat × Operand)} {ps : List (Nat × VP)}, evp ρ xs ps → (xs.map fun p => (p.1, a.eval p.2)).map (·.1) = ps.map (·.1) ∧ Args m ((xs.map fun p => (p.1, a.eval p.2)).map (·.2)) (ps.map (·.2))
  | [], [], _ => ⟨rfl, trivial⟩
  | (i, x) :: xs, (j, p) :: ps, ⟨h1, ⟨q, h2, h3⟩, h4⟩ => by
    obtain ⟨r1, r2⟩ := evp.args t h4
    exact ⟨by simp only [List.map_cons, h1]; rw [r1], h3 _ _ (t.evl h2), r2⟩
theorem O.bld {α : Type} {k : Kd α} {T : TypeId} {parts : List (Nat × Operand)} {ps : List (Nat × VP)} {pl : Nat → Option (Nat × Nat)} {z x : α} (ht : LitOk C.P T k pl z) (hk : k.agg = true) (he : evp ρ parts ps) (hb : BP k pl ps z x) : OpOk C ⟨dst, .build T parts.toArray, ty, pos, after, g⟩ ρ L (k.is x) L := OpOk.val fun m w f s t => by
  obtain ⟨A, h1, h2⟩ := ht
  obtain ⟨r1, r2⟩ := evp.args t he
  obtain ⟨B, hB, hx⟩ := fill_ok hb r1 r2 (h2 m)
  refine ⟨.agg B, ?_, B.toList, by simp [Kd.val, hk], hx⟩
  have := run_build (P := C.P) w T (parts.toArray.map fun p => (p.1, f.eval p.2)) B (by rw [h1]; simpa using hB)
  simp only [execOp, Sem.run_bind, this, Result.andThen_ok]
  rfl

/-! ### Parts of values -/
/-- A field of a struct type: its place and its type. -/
def PartOk (P : Program) (T : TypeId) (f off : Nat) (agg : Bool) (sz : Nat) : Prop := ∃ fields fd, P.underlying T = some (.struct fields) ∧ fields[f]? = some fd ∧ fd.offset = off ∧ TyOk P fd.type agg sz
theorem run_part {β : Type} {P : Program} {t : TypeId} {l : Kd β} (ht : TyOk P t l.agg l.sz) {m : Mem} {A : Array Value} {off : Nat} {y : β} (h : l.at' m ((A.toList.drop off).take l.sz) y) (w : World) : (part t A off).run P w = .ok (l.val ((A.toList.drop off).take l.sz)) w := by
  have hl := l.len h
  simp only [List.length_take, List.length_drop, Array.length_toList] at hl
  unfold part Kd.val
  cases ha : l.agg with
  | true =>
    rw [ha] at ht
    simp only [Sem.run_bind, run_isAgg ht, Result.andThen_ok, if_true, run_sizeOf ht]
    have : A.extract off (off + l.sz) = ((A.toList.drop off).take l.sz).toArray := by
      apply Array.ext'
      simp
    simp [this]
  | false =>
    rw [ha] at ht
    have h1 := l.one ha
    have hlt : off < A.size := by omega
    simp [run_isAgg ht, hlt, h1, List.head?_take, List.head?_drop, List.headD_eq_head?_getD]
theorem O.fld {α β : Type} {k : Kd α} {l : Kd β} {v : α} {gt : α → β} {st : β → α → α} {x : Operand} {T : TypeId} {f off : Nat} (hx : ev ρ x = some (k.is v)) (hk : k.agg = true) (hp : PartOk C.P T f off l.agg l.sz) {p : VP} (ln : Lens k off l gt st) (hr : l.is (gt v) = p) : OpOk C ⟨dst, .field T x f, ty, pos, after, g⟩ ρ L p L := hr ▸ OpOk.val fun m w a s t => by
  obtain ⟨fields, fd, h1, h2, h3, h4⟩ := hp
  obtain ⟨cs, e1, e2⟩ := t.evl hx
  have hg := ln.get e2
  refine ⟨_, ?_, _, rfl, hg⟩
  have hv : a.eval x = .agg cs.toArray := by rw [e1]; simp [Kd.val, hk]
  have := run_part (P := C.P) h4 (A := cs.toArray) (off := off) (by simpa using hg) w
  subst h3
  simp only [List.toList_toArray] at this
  simp [execOp, Instr.field, run_underlying h1, h2, hv, asAgg, this]
theorem O.ext {x : Operand} {i : Nat} {ps : List VP} {p : VP} (hx : ev ρ x = some (VP.tup ps)) (hi : ps[i]? = some p) : OpOk C ⟨dst, .extract x i, ty, pos, after, g⟩ ρ L p L := OpOk.val fun m w a s t => by
  obtain ⟨vs, e1, e2⟩ := t.evl hx
  obtain ⟨v, h1, h2⟩ := e2.get i p hi
  refine ⟨v, ?_, h2⟩
  simp [execOp, Instr.extract, e1, h1]

/-! ### Literals of slices -/
def evl (ρ : Env) {α : Type} (k : Kd α) : Nat → List (Nat × Operand) → List α → Prop
  | _, [], [] => True
  | n, (i, x) :: xs, y :: ys => i = n ∧ (∃ q, ev ρ x = some q ∧ VP.le q (k.is y)) ∧ evl ρ k (n + 1) xs ys
  | _, _, _ => False
theorem evl.n {α : Type} {k : Kd α} {n : Nat} : evl ρ k n [] [] := trivial
theorem evl.c {α : Type} {k : Kd α} {n : Nat} {x : Operand} {xs : List (Nat × Operand)} {y : α} {ys : List α} (h : ev ρ x = some (k.is y)) (r : evl ρ k (n + 1) xs ys) : evl ρ k n ((n, x) :: xs) (y :: ys) := ⟨rfl, ⟨_, h, VP.le_refl _⟩, r⟩
theorem evl.l {α : Type} {k : Kd α} {n : Nat} {x : Operand} {xs : List (Nat × Operand)} {y : α} {ys : List α} {q : VP} (h : ev ρ x = some q) (l : VP.le q (k.is y)) (r : evl ρ k (n + 1) xs ys) : evl ρ k n ((n, x) :: xs) (y :: ys) := ⟨rfl, ⟨_, h, l⟩, r⟩
theorem fill_list {α : Type} {k : Kd α} {m : Mem} {N : Nat} {a : Act} (t : Has N m a ρ) : ∀ {xs : List (Nat × Operand)} {ys : List α} {n : Nat} {A : Array Value}, evl ρ k n xs ys → A.size = (n + ys.length) * k.sz →
    ∃ B cells, Instr.fill (fun i => some (i * k.sz, k.sz)) A (xs.map fun p => (p.1, a.eval p.2)) = some B ∧ Rows k m cells ys ∧ B.toList = A.toList.take (n * k.sz) ++ cells
  | [], [], n, A, _, hA => ⟨A, [], rfl, rfl, by
      have hA' : A.toList.length = n * k.sz := by simpa using hA
      rw [List.append_nil, ← hA', List.take_length]⟩
  | (i, x) :: xs, y :: ys, n, A, ⟨h1, ⟨q, h2, h3⟩, h4⟩, hA => by
    subst h1
    obtain ⟨cs, e1, e2⟩ := h3 _ _ (t.evl h2)
    have hl := k.len e2
    have hsz := k.cells_val e2
    have hA2 : A.size = (i + 1 + ys.length) * k.sz := by rw [hA]; congr 1; simp; omega
    have hle : i * k.sz + k.sz ≤ A.size := by
      rw [hA2, ← Nat.succ_mul]; exact Nat.mul_le_mul_right _ (by omega)
    have hfold := foldl_set cs 0 (i * k.sz) A (by rw [hl, Nat.add_zero]; exact hle)
    rw [Nat.add_zero, hl] at hfold
    obtain ⟨B, cells, r1, r2, r3⟩ := fill_list t (n := i + 1) (A := cs.zipIdx.foldl (fun cs p => cs.setIfInBounds (i * k.sz + p.2) p.1) A) h4 (by
      have := congrArg List.length hfold
      simp only [Array.length_toList] at this
      rw [this, ← hA2]
      simp [hl]
      omega)
    refine ⟨B, cs ++ cells, ?_, ⟨cs, cells, rfl, e2, r2⟩, ?_⟩
    · simp only [List.map_cons, Instr.fill, e1, hsz]
      rw [if_neg (by simp [hl]; omega), ← r1]
      congr 1
      rw [← Array.foldl_toList, Array.toList_zipIdx]
    · rw [r3, hfold]
      have : (i + 1) * k.sz = (A.toList.take (i * k.sz) ++ cs).length := by
        rw [Nat.succ_mul]; simp [hl]; omega
      rw [this, List.take_left, List.append_assoc]
theorem run_buildSlice {α : Type} {k : Kd α} {P : Program} {T e : TypeId} (hu : P.underlying T = some (.slice e)) (he : ElOk P e k) (w : World) (n : Nat) (parts : Array (Nat × Value)) (hn : n * k.sz ≤ 16777216) {Φ : Array Value → Prop} (hB : ∀ A : Array Value, A.size = n * k.sz → ∃ B, Instr.fill (fun i => some (i * k.sz, k.sz)) A parts.toList = some B ∧ Φ B) : ∃ B, Φ B ∧ (Instr.buildSlice T n parts).run P w = .ok (.slice (some ⟨w.heap.size, 0, none⟩) n n) (w.alloc (.cells B e)) := by
  obtain ⟨i, z, h1, h2, h3, h4, h5, h6⟩ := he
  by_cases h0 : n * k.sz = 0
  · obtain ⟨B, b1, b2⟩ := hB #[] (by simp [h0])
    refine ⟨B, b2, ?_⟩
    simp [Instr.buildSlice, run_underlying hu, Go.sizeOf, typeInfo, h1, h3, h0, b1, newRow, Array.range_zero']
  · obtain ⟨B, b1, b2⟩ := hB ((Array.range (n * k.sz)).map (z.cells[· % z.cells.size]!)) (by simp)
    have hn' : ¬ 16777216 < n * k.sz := by omega
    refine ⟨B, b2, ?_⟩
    simp only [Instr.buildSlice, Sem.run_bind, run_underlying hu, Result.andThen_ok, Go.sizeOf, typeInfo, run_program, h1, h3]
    simp [h3, h0, hn', b1, zeroValue, typeInfo, h1, h2, newRow]
/-- []T{..}, told as read-only. -/
theorem WP.bs {α : Type} {k : Kd α} {ys : List α} {d : Tmp} {T e : TypeId} {n : Nat} {parts : List (Nat × Operand)} (hr : Run ops ρ ⟨some d, .buildSlice T n parts.toArray, ty, pos, after, g⟩) (hu : C.P.underlying T = some (.slice e)) (he : ElOk C.P e k) (hp : evl ρ k 0 parts ys) (hn : ys.length = n) (hn2 : n * k.sz ≤ 16777216)
    (h : WP C ops Q rest ((d, (kSl k).is ys) :: ρ) L) (hd : Nat.blt d C.N = true := by rfl) : WP C ops Q (⟨some d, .buildSlice T n parts.toArray, ty, pos, after, g⟩ :: rest) ρ L := fun m w a s t => by
  unfold wpList
  rw [if_pos (hr _ m a t)]
  refine .inl ?_
  have hsz := he
  obtain ⟨i, z, h1, h2, h3, h4, h5, h6⟩ := hsz
  have hnn : n ≤ n * k.sz := Nat.le_mul_of_pos_right _ h6
  obtain ⟨B, hB, hrun⟩ := run_buildSlice (Φ := fun B => Rows k m B.toList ys) hu he w n (parts.toArray.map fun p => (p.1, a.eval p.2)) hn2 (fun A hA => by
    obtain ⟨B, cells, r1, r2, r3⟩ := fill_list t (A := A) hp (by simp [hn, hA])
    simp only [Nat.zero_mul, List.take_zero, List.nil_append] at r3
    exact ⟨B, by simpa using r1, by rw [r3]; exact r2⟩)
  have hrun' : (execOp a.eval ⟨some d, .buildSlice T n parts.toArray, ty, pos, after, g⟩).run C.P w = .ok (.value (.slice (some ⟨w.heap.size, 0, none⟩) n n)) (w.alloc (.cells B e)) := by
    simp only [execOp, Sem.run_bind, hrun, Result.andThen_ok]
    rfl
  unfold Oper.wp
  rw [hrun']
  have hgrow : Grow [] w (w.alloc (.cells B e)) := ⟨rfl, rfl, rfl, by simp, fun i hi _ => RowKit.Below.heap_alloc w _ i hi⟩
  have hm0 : m w.heap.size = none := by
    cases hm : m w.heap.size with
    | none => rfl
    | some c => have := s.fits.lt hm; omega
  have hle := Mem.le_add (m := m) (b := w.heap.size) (c := B.toList) hm0
  have s1 := s.lift hle (m' := m.add w.heap.size B.toList) (w' := w.alloc (.cells B e)) (by
    intro x y hx
    by_cases hxi : x = w.heap.size
    · subst hxi
      simp only [Mem.add, if_true, Option.some.injEq] at hx
      subst hx
      exact ⟨B, e, (0, 0), [], heap_alloc_new w _, by simp⟩
    · simp only [Mem.add, hxi, if_false] at hx
      exact s.fits.grow hgrow (by simp) x y hx) hgrow (by
    intro x hx h0
    simp only [Mem.add]
    rw [if_neg (by omega)]
    exact h0)
  refine h _ _ _ s1 ((t.up hle).put ⟨_, rfl, some ⟨w.heap.size, 0, none⟩, n, by rw [hn], by omega, by omega, .inr ⟨w.heap.size, 0, B.toList, B.toList, rfl, by simp [Mem.add], ⟨[], [], by simp, rfl⟩, hB.mono hle⟩⟩ hd)
end
end Fw
