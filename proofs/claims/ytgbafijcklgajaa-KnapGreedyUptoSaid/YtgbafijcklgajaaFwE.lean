/- The frame of the walks: slices of the call's own, parts, literals. -/
import Derived.Test.YtgbafijcklgajaaFwD
import Derived.Maps.AppendAt
set_option linter.unusedVariables false
set_option linter.unusedSimpArgs false
namespace Fw
open Go

section
variable {C : Ctx} {Q : Exit → Act → World → Prop} {ρ : Env} {L L' : List OB} {ops : Array Oper} {rest : List Oper}
  {dst : Option Tmp} {ty : TypeId} {pos : String} {after : Array Edge} {g : Option (Nat × Bool)}

/-- The type of elements: cells, bytes, zero. -/
def ElOk {α : Type} (P : Program) (e : TypeId) (k : Kd α) : Prop := ∃ i v, P.info? e = some i ∧ i.zero = some v ∧ i.size = k.sz ∧ i.bytes ≤ 128 ∧ v.cells.size = k.sz ∧ 0 < k.sz
theorem madeCells_eq {zs : List Value} (hz : 0 < zs.length) : ∀ n, (madeCells zs.toArray (n * zs.length)).toList = (List.replicate n zs).flatten := by
  intro n
  apply List.ext_getElem?
  intro j
  have hflat : ∀ (n j : Nat), j < n * zs.length → ((List.replicate n zs).flatten)[j]? = zs[j % zs.length]? := by
    intro n
    induction n with
    | zero => intro j h; simp at h
    | succ n ih =>
      intro j h
      rw [List.replicate_succ, List.flatten_cons]
      by_cases hj : j < zs.length
      · rw [List.getElem?_append_left hj, Nat.mod_eq_of_lt hj]
      · rw [List.getElem?_append_right (by omega), ih _ (by rw [Nat.succ_mul] at h; omega)]
        congr 1
        conv => rhs; rw [show j = (j - zs.length) + zs.length from by omega, Nat.add_mod_right]
  by_cases hj : j < n * zs.length
  · rw [hflat n j hj]
    have hm := Nat.mod_lt j hz
    simp [madeCells, hj, List.getElem?_eq_getElem hm, hm]
  · rw [List.getElem?_eq_none (by simp [madeCells]; omega), List.getElem?_eq_none (by simp; omega)]
/-- make. -/
theorem WP.mk {α : Type} {k : Kd α} {z : α} {d : Tmp} {T e : TypeId} {x y : Operand} {ki kj : IntKind} {n : Int} (c : Nat) (hr : Run ops ρ ⟨some d, .makeSlice T x y, ty, pos, after, g⟩) (hx : ev ρ x = some ((kInt ki).is n)) (hy : ev ρ y = some ((kInt kj).is n)) (hn : n = c) (hc : c ≤ 1099511627776)
    (hu : C.P.underlying T = some (.slice e)) (he : ElOk C.P e k) (hz : ZeroOk C.P e k z) (h : ∀ v, WP C ops Q rest ((d, VP.ex v) :: ρ) (OB.row v e k (List.replicate c z) :: L)) (hd : Nat.blt d C.N = true := by rfl) :
    WP C ops Q (⟨some d, .makeSlice T x y, ty, pos, after, g⟩ :: rest) ρ L := fun m w a s t => by
  subst hn
  obtain ⟨i, v, h1, h2, h3, h4, h5, h6⟩ := he
  obtain ⟨i', v', h1', h2', hz⟩ := hz
  rw [h1] at h1'; cases h1'
  rw [h2] at h2'; cases h2'
  unfold wpList
  rw [if_pos (hr _ m a t)]
  refine .inl ?_
  have hrun := run_make (P := C.P) w T e i v hu h1 h2 ki kj (c : Int) (c : Int) (by omega) (Int.le_refl _) (by
    have : (i.bytes : Int) * (c : Int) ≤ 128 * 1099511627776 := Int.mul_le_mul (by omega) (by omega) (by omega) (by omega)
    omega) (by omega)
  simp only [Int.toNat_natCast] at hrun
  unfold Oper.wp
  have hrun' : (execOp a.eval ⟨some d, .makeSlice T x y, ty, pos, after, g⟩).run C.P w = .ok (.value (.slice (some ⟨w.heap.size, 0, none⟩) c c)) (w.alloc (.cells (madeCells v.cells (c * i.size)) e)) := by
    simp [execOp, t.int hx, t.int hy, hrun]
  rw [hrun']
  have hlen : v.cells.toList.length = k.sz := by simpa using h5
  have hcells : (madeCells v.cells (c * i.size)).toList = (List.replicate c v.cells.toList).flatten := by
    have := madeCells_eq (zs := v.cells.toList) (by omega) c
    rw [Array.toArray_toList, hlen] at this
    rw [h3]; exact this
  have hrows := Rows.replicate (hz m) c
  rw [← hcells] at hrows
  have hgrow : Grow [] w (w.alloc (.cells (madeCells v.cells (c * i.size)) e)) := ⟨rfl, rfl, rfl, by simp, fun i hi _ => RowKit.Below.heap_alloc w _ i hi⟩
  have hsz : (madeCells v.cells (c * i.size)).size = c * k.sz := by rw [size_madeCells, h3]
  refine h _ m _ _ (s.new hgrow (OB.row (.slice (some ⟨w.heap.size, 0, none⟩) c c) e k (List.replicate c z)) ⟨(madeCells v.cells (c * i.size)).toList, ⟨?_, .inr ⟨w.heap.size, c, _, ?_, Nat.zero_le _, heap_alloc_new w _, ?_, ?_, hsz, ?_⟩⟩, hrows, ?_⟩ ?_) (t.put rfl hd)
  · simp [hsz]
  · simp
  · simp
  · unfold maxLen; omega
  · rw [List.take_of_length_le]; simp [hsz]
  · simpa using hc
  · intro i hi
    simp [OB.row, Value.ownBlock] at hi
    subst hi
    simp
/-- A nil slice of the call's own. -/
theorem ST.nilrow {α : Type} {K : Act → World → Prop} (e : TypeId) (k : Kd α) (h : ST C K ρ (OB.row (.slice none 0 0) e k [] :: L)) : ST C K ρ L := fun m w a s t =>
  h m w a (s.new (Grow.refl [] w) (OB.row (.slice none 0 0) e k []) ⟨[], World.ownsRow_nil .., rfl, by simp⟩ (by intro i hi; simp [OB.row, Value.ownBlock] at hi)) t
/-- A pointer into a slice of the call's own. -/
def VP.pel (v : Value) (o : Nat) : VP := ⟨fun _ u => ∃ b n c, v = .slice (some ⟨b, 0, none⟩) n c ∧ u = .pointer (some ⟨b, o, none⟩), fun _ h => h⟩
theorem row_own {α : Type} {k : Kd α} {xs : List α} {v : Value} {e : TypeId} {m : Mem} {w : World} (s : Sat C m w L) (hj : OB.row v e k xs ∈ L) : ∃ cells, w.ownsRow 0 e k.sz v xs.length cells ∧ Rows k m cells xs ∧ xs.length ≤ 1099511627776 := (s.own _ hj).1
theorem O.ixR {α : Type} {k : Kd α} {xs : List α} {v : Value} {x y : Operand} {ki : IntKind} {n : Int} {T e e' : TypeId} {agg : Bool} (i : Nat) (hx : ev ρ x = some (VP.ex v)) (hy : ev ρ y = some ((kInt ki).is n)) (hj : OB.row v e k xs ∈ L) (hu : C.P.underlying T = some (.slice e')) (ht : TyOk C.P e' agg k.sz) (hn : n = i) (hlt : i < xs.length) : OpOk C ⟨dst, .indexAddr T x y, ty, pos, after, g⟩ ρ L (VP.pel v (i * k.sz)) L := OpOk.val fun m w a s t => by
  subst hn
  obtain ⟨cells, h1, h2, h3⟩ := row_own s hj
  rcases h1.2 with ⟨_, h⟩ | ⟨b, cap, cur, rfl, _⟩
  · omega
  · refine ⟨_, ?_, b, _, _, rfl, rfl⟩
    simp only [execOp, t.ex hx, t.int hy, Sem.run_bind, run_indexAt hu ht w ki i _ cap hlt b 0, Result.andThen_ok, Nat.zero_add]; rfl
theorem row_cell {w : World} {e : TypeId} {sz : Nat} {b n cap : Nat} {cells : List Value} (h : w.ownsRow 0 e sz (.slice (some ⟨b, 0, none⟩) n cap) n cells) {o : Nat} {u : Value} (ho : cells[o]? = some u) : w.cell? ⟨b, o, none⟩ = some u := by
  have := h.cells (g := b) rfl o u ho
  rwa [Addr.add_lit, Nat.zero_add] at this
theorem O.ldR {α β : Type} {k : Kd α} {l : Kd β} {gt : α → β} {st : β → α → α} {xs : List α} {y : α} {v : Value} {x : Operand} {T e : TypeId} {o f : Nat} (i : Nat) (hx : ev ρ x = some (VP.pel v o)) (hj : OB.row v e k xs ∈ L) (ln : Lens k f l gt st) (ho : o = i * k.sz + f) {p : VP} (hv : xs[i]? = some y) (ht : TyOk C.P T l.agg l.sz) (hp : l.is (gt y) = p) : OpOk C ⟨dst, .load T x, ty, pos, after, g⟩ ρ L p L := hp ▸ OpOk.val fun m w a s t => by
  subst ho
  obtain ⟨cells, h1, h2, h3⟩ := row_own s hj
  obtain ⟨b, n, c, rfl, hp⟩ := t.evl hx
  obtain ⟨hlt, hget⟩ := List.getElem?_eq_some_iff.1 hv
  have hn : n = xs.length := by
    rcases h1.2 with ⟨hh, _⟩ | ⟨b', cap, cur, hh, _⟩
    · cases hh
    · cases hh; rfl
  subst hn
  have hel := hget ▸ h2.get i hlt
  have hlx := ln.get hel
  have hfit := ln.fit
  have hcl := h2.len
  have hle : i * k.sz + k.sz ≤ cells.length := by rw [hcl, ← Nat.succ_mul]; exact Nat.mul_le_mul_right _ hlt
  refine ⟨_, ?_, _, rfl, hlx⟩
  have := run_loadVar (P := C.P) ht w b (i * k.sz + f) hlx (fun q u hq => by
    have hq' := (List.getElem?_eq_some_iff.1 hq).1
    simp only [List.length_take, List.length_drop] at hq'
    rw [List.getElem?_take_of_lt (by omega), List.getElem?_drop, List.getElem?_take_of_lt (by omega), List.getElem?_drop] at hq
    refine row_cell h1 (o := i * k.sz + f + q) ?_
    rw [Nat.add_assoc]; exact hq)
  simp [execOp, Instr.loadAt, hp, Instr.sureAddr, this]
theorem O.faR {x : Operand} {T : TypeId} {f o off : Nat} {v : Value} (hx : ev ρ x = some (VP.pel v o)) (hf : FldOk C.P T f off) : OpOk C ⟨dst, .fieldAddr T x f, ty, pos, after, g⟩ ρ L (VP.pel v (o + off)) L := OpOk.val fun m w a s t => by
  obtain ⟨b, n, c, rfl, hp⟩ := t.evl hx
  refine ⟨_, ?_, b, n, c, rfl, rfl⟩
  simp only [execOp, hp, Sem.run_bind, run_fieldAt hf w b o, Result.andThen_ok]; rfl
theorem set_row {α : Type} {k : Kd α} {xs ys : List α} {e : TypeId} {b cap : Nat} {j : Nat} {m : Mem} {w : World} {cur : Array Value} {cells cells' : List Value} (s : Sat C m w L) (hj : L[j]? = some (OB.row (.slice (some ⟨b, 0, none⟩) xs.length cap) e k xs)) (hA : w.heap[b]? = some (.cells cur e (0, 0))) (hcap : xs.length ≤ cap) (hm : cap ≤ maxLen) (hs : cur.size = cap * k.sz)
    (hl : ys.length = xs.length) (hc : cells.length = xs.length * k.sz) (hcur : cur.toList.take (xs.length * k.sz) = cells) (h3 : xs.length ≤ 1099511627776) (hrow : Rows k m cells' ys) : Sat C m (w.setRow b (cells' ++ cur.toList.drop (xs.length * k.sz)).toArray) (L.set j (OB.row (.slice (some ⟨b, 0, none⟩) xs.length cap) e k ys)) := by
  have hlen := hrow.len
  have hcl : cur.toList.length = cap * k.sz := by simpa using hs
  have hle : xs.length * k.sz ≤ cap * k.sz := Nat.mul_le_mul_right _ hcap
  refine s.turn j _ _ hj ⟨rfl, rfl, rfl, by simp, fun i hi hx => setRow_other w b i _ (fun h => hx (by simp [OB.row, Value.ownBlock, h]))⟩ ⟨cells', ⟨?_, .inr ⟨b, cap, _, ?_, Nat.zero_le _, setRow_heap w b cur _ e _ hA, ?_, hm, ?_, ?_⟩⟩, hrow, by omega⟩ (fun i hi => .inl (by simpa [OB.row] using hi))
  · exact hlen
  · rw [hl]
  · omega
  · simp [hlen, hl]; omega
  · simp only [hl]
    rw [List.take_append_of_le_length (by rw [hlen, hl]; exact Nat.le_refl _), List.take_of_length_le (by rw [hlen, hl]; exact Nat.le_refl _)]
/-- A store into an element of a slice of the call's own. -/
theorem O.stR {α β : Type} {k : Kd α} {l : Kd β} {gt : α → β} {st : β → α → α} {xs : List α} {u : β} {y0 : α} {v : Value} {q : VP} {x y : Operand} {T e : TypeId} {agg : Bool} {o f : Nat} (j i : Nat) (hx : ev ρ x = some (VP.pel v o)) (hj : L[j]? = some (OB.row v e k xs)) (ln : Lens k f l gt st) (ho : o = i * k.sz + f) (hv : xs[i]? = some y0) (ht : TyOk C.P T agg l.sz) (hy : ev ρ y = some q) (hq : VP.le q (l.is u)) : OpOk C ⟨dst, .store T x y, ty, pos, after, g⟩ ρ L VP.tt (L.set j (OB.row v e k (xs.set i (st u y0)))) := OpOk.skipW fun m w a s t => by
  subst ho
  obtain ⟨cells, h1, h2, h3⟩ := row_own s (List.mem_of_getElem? hj)
  obtain ⟨b, n, c, rfl, hp⟩ := t.evl hx
  obtain ⟨hlt, hget⟩ := List.getElem?_eq_some_iff.1 hv
  obtain ⟨cs, hcs, hk⟩ := hq _ _ (t.evl hy)
  rcases h1.2 with ⟨hh, _⟩ | ⟨b', cap, cur, hh, _, hA, hcap, hm, hsz, hcur⟩
  · cases hh
  · cases hh
    have hel := hget ▸ h2.get i hlt
    have hfit := ln.fit
    have hcl := h2.len
    have hcl2 : cur.toList.length = c * k.sz := by simpa using hsz
    have hle : i * k.sz + k.sz ≤ xs.length * k.sz := by rw [← Nat.succ_mul]; exact Nat.mul_le_mul_right _ hlt
    have hle2 : xs.length * k.sz ≤ c * k.sz := Nat.mul_le_mul_right _ hcap
    have hst := run_storeVar (P := C.P) ht w b (i * k.sz + f) e cur hA hk (by omega)
    have hrow := h2.set i hlt (ln.set hel hk)
    refine ⟨_, ?_, set_row s hj hA hcap hm hsz (by simp) hcl hcur h3 hrow⟩
    have heq : cur.toList.take (i * k.sz + f) ++ cs ++ cur.toList.drop (i * k.sz + f + l.sz) = cells.take (i * k.sz) ++ (((cells.drop (i * k.sz)).take k.sz).take f ++ cs ++ ((cells.drop (i * k.sz)).take k.sz).drop (f + l.sz)) ++ cells.drop (i * k.sz + k.sz) ++ cur.toList.drop (xs.length * k.sz) := by
      have e1 : cur.toList = cells ++ cur.toList.drop (xs.length * k.sz) := by rw [← hcur, List.take_append_drop]
      conv => lhs; rw [e1]
      rw [List.take_append_of_le_length (by omega), List.drop_append_of_le_length (by omega)]
      rw [List.take_take, Nat.min_eq_left (by omega), List.drop_take, List.drop_drop, List.take_add]
      simp only [List.append_assoc]
      congr 3
      rw [← List.append_assoc]
      congr 1
      have : cells.drop (i * k.sz + k.sz) = ((cells.drop (i * k.sz + (f + l.sz))).drop (k.sz - (f + l.sz))) := by
        rw [List.drop_drop]; congr 1; omega
      rw [this, List.take_append_drop, Nat.add_assoc]
    rw [← heq]
    simp [execOp, Instr.storeAt, hp, hcs, Instr.sureAddr, hst]

/-! ### Append -/
theorem owns_lenEq {w : World} {b : Nat} {e : TypeId} {s : Nat} {v : Value} {n : Nat} {xs : List Value} (h : w.ownsRow b e s v n xs) : ∃ a cap, v = .slice a n cap ∧ n ≤ cap := by
  rcases h.2 with ⟨rfl, rfl⟩ | ⟨g, cap, cur, rfl, _, _, h, _⟩
  · exact ⟨none, 0, rfl, Nat.le_refl _⟩
  · exact ⟨_, _, rfl, h⟩
/-- append onto a slice of the call's own. -/
theorem WP.ap {α : Type} {k : Kd α} {xs ys : List α} {v : Value} {q : VP} {d : Tmp} {T e : TypeId} {x y : Operand} (j : Nat) (hr : Run ops ρ ⟨some d, .call ⟨.builtin .append, #[x, y], #[T, T]⟩, ty, pos, after, g⟩) (hx : ev ρ x = some (VP.ex v)) (hj : L[j]? = some (OB.row v e k xs)) (hy : ev ρ y = some q) (hq : VP.le q ((kSl k).is ys))
    (hu : C.P.underlying T = some (.slice e)) (he : ElOk C.P e k) (hl : xs.length + ys.length ≤ 1099511627776) (h : ∀ v', WP C ops Q rest ((d, VP.ex v') :: ρ) (L.set j (OB.row v' e k (xs ++ ys)))) (hd : Nat.blt d C.N = true := by rfl) :
    WP C ops Q (⟨some d, .call ⟨.builtin .append, #[x, y], #[T, T]⟩, ty, pos, after, g⟩ :: rest) ρ L := fun m w a s t => by
  obtain ⟨i, z, h1, h2, h3, h4, h5, h6⟩ := he
  obtain ⟨cells, o1, o2, o3⟩ := row_own s (List.mem_of_getElem? hj)
  obtain ⟨ad, cap, e1, e2, e3, e4⟩ := Kd.is_sl (hq _ _ (t.evl hy))
  unfold wpList
  rw [if_pos (hr _ m a t)]
  refine .inl ?_
  have key : ∃ v' w' news, (Builtin.append_ #[T, T] ty #[v, .slice ad ys.length cap]).run C.P w = .ok v' w' ∧ w'.ownsRow 0 e k.sz v' (xs.length + ys.length) (cells ++ news) ∧ w.grownBy w' v.ownBlock ∧ (v'.ownBlock = v.ownBlock ∨ v'.ownBlock = some w.heap.size ∧ w.heap.size < w'.heap.size) ∧ Rows k m news ys := by
    rcases e4 with rfl | ⟨b, o, c, news, rfl, f1, f2, f3⟩
    · obtain ⟨av, cv, rfl, hle⟩ := owns_lenEq o1
      refine ⟨_, w, [], ?_, by simpa using o1, World.grownBy.refl w _, .inl rfl, rfl⟩
      have hs : Src C.P i.size T (.slice ad 0 cap) 0 [] w := by
        cases ad with
        | none => exact ⟨.inl ⟨e, hu⟩, fun _ => rfl, run_firstCells_none w _ 0 0 cap, run_firstCells_none w.drew _ 0 0 cap, by simp, fun _ h => by cases h⟩
        | some ad => exact Src.ofSlice w hu ad 0 cap [] (by simp) (by simp) (by simp)
      exact run_append_nothing w T T ty e i hu h1 av xs.length cv hle _ hs
    · obtain ⟨v', w', r1, r2, r3, _, r5⟩ := run_append_own_at (P := C.P) w 0 T ty e i z k.sz i.bytes hu h1 h2 h3 rfl h5 h6 v xs.length cells o1 ⟨b, o, none⟩ ys.length cap news f3.len (fun j u hj => by rw [Addr.add_lit]; exact f2.cells s.fits f1 j u hj) f3.flat (by unfold maxLen; omega) (by
        have : (xs.length + ys.length) * i.bytes ≤ 1099511627776 * 128 := Nat.mul_le_mul hl h4
        omega) (Nat.zero_le _)
      refine ⟨v', w', news, r1, r2, r3, ?_, f3⟩
      rcases r5 with r5 | r5
      · exact .inl r5
      · exact .inr ⟨r5, (r2.lt _ r5).2⟩
  obtain ⟨v', w', news, k1, k2, k3, k4, k5⟩ := key
  unfold Oper.wp
  have hrun : (execOp a.eval ⟨some d, .call ⟨.builtin .append, #[x, y], #[T, T]⟩, ty, pos, after, g⟩).run C.P w = .ok (.value v') w' := by
    simp [execOp, resolve, invoke, builtin, t.ex hx, e1, k1]
  rw [hrun]
  have hlen : (xs ++ ys).length = xs.length + ys.length := by simp
  refine h v' m _ _ (s.turn j _ _ hj (Grow.of_grownBy k3) ⟨cells ++ news, by rw [hlen]; exact k2, o2.append k5, by rw [hlen]; exact hl⟩ ?_) (t.put rfl hd)
  intro i hi
  simp only [OB.row, Option.mem_toList] at hi
  rcases k4 with k4 | ⟨k4, k6⟩
  · left; simp only [OB.row]; rw [← k4]; simpa using hi
  · right
    rw [k4] at hi
    cases hi
    exact ⟨Nat.le_refl _, k6⟩

/-! ### What was the call's own is told as read-only from now on -/
def Mem.add (m : Mem) (b : Nat) (c : List Value) : Mem := fun i => if i = b then some c else m i
theorem Mem.le_add {m : Mem} {b : Nat} {c : List Value} (h : m b = none) : Mem.le m (m.add b c) := fun i x hx => by
  by_cases hi : i = b
  · subst hi; rw [h] at hx; cases hx
  · exact ⟨[], by simp [Mem.add, hi, hx]⟩
theorem Sat.free {m : Mem} {w : World} {b : OB} {j : Nat} (s : Sat C m w L) (hj : L[j]? = some b) {i : Nat} {A : Array Value} {e : TypeId} {f : Nat × Nat} {c r : List Value} (hi : i ∈ b.ids) (hA : w.heap[i]? = some (.cells A e f)) (hc : A.toList = c ++ r) : Mem.le m (m.add i c) ∧ Sat C (m.add i c) w (L.eraseIdx j) := by
  obtain ⟨hlt, he⟩ := List.getElem?_eq_some_iff.1 hj
  have hb : b ∈ L := by rw [← he]; exact List.getElem_mem hlt
  obtain ⟨h1, h2⟩ := s.own b hb
  obtain ⟨h3, h4, h5⟩ := h2 i hi
  have hm := Mem.le_add (m := m) (b := i) (c := c) h3
  refine ⟨hm, ?_⟩
  have hsplit : L = L.take j ++ b :: L.drop (j + 1) := by rw [← he]; simp
  have herase : L.eraseIdx j = L.take j ++ L.drop (j + 1) := by rw [List.eraseIdx_eq_take_drop_succ]
  have hap := s.apart
  rw [hsplit, List.pairwise_append, List.pairwise_cons] at hap
  obtain ⟨p1, ⟨p2, p3⟩, p4⟩ := hap
  have hother : ∀ c ∈ L.eraseIdx j, i ∉ c.ids := by
    intro c hc hic
    rw [herase, List.mem_append] at hc
    rcases hc with hc | hc
    · exact p4 c hc b (by simp) i hic hi
    · exact p2 c hc i hi hic
  have s' := s.sub (List.eraseIdx_sublist L j)
  refine ⟨Mem.le_trans s.le hm, ?_, s.grow, ?_, ?_, s'.apart⟩
  · intro x y hx
    by_cases hxi : x = i
    · subst hxi
      simp only [Mem.add, if_true, Option.some.injEq] at hx
      subst hx
      exact ⟨A, e, f, r, hA, hc⟩
    · simp only [Mem.add, hxi, if_false] at hx
      exact s.fits x y hx
  · intro x hx hX h0
    by_cases hxi : x = i
    · subst hxi
      rcases h4 with h4 | h4
      · omega
      · exact absurd h4 hX
    · simp only [Mem.add, hxi, if_false]
      exact s.fresh x hx hX h0
  · intro c hc
    obtain ⟨q1, q2⟩ := s'.own c hc
    refine ⟨c.mono hm (fun _ _ => rfl) q1, fun x hx => ?_⟩
    obtain ⟨q3, q4, q5⟩ := q2 x hx
    refine ⟨?_, q4, q5⟩
    have hxi : x ≠ i := fun h => by subst h; exact hother c hc hx
    simp only [Mem.add, hxi, if_false]
    exact q3
end
end Fw
