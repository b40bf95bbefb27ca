/- The frame of the walks: strings' bytes, windows and shorter forms of slices of the call's own. -/
import Derived.Test.YtgbafijcklgajaaFwJ
import Derived.Laws.Strings
set_option linter.unusedVariables false
set_option linter.unusedSimpArgs false
namespace Fw
open Go

section
variable {C : Ctx} {Q : Exit → Act → World → Prop} {ρ ρ' : Env} {L L' : List OB} {ops : Array Oper} {rest : List Oper}
  {dst : Option Tmp} {ty : TypeId} {pos : String} {after : Array Edge} {g : Option (Nat × Bool)}
/-- A byte of a constant. -/
theorem O.ixS {s : ByteArray} {y : Operand} {T : TypeId} {k : IntKind} {n : Int} {N : Nat} (f : Nat → Nat) (i : Nat) (hy : ev ρ y = some ((kInt k).is n)) (hu : C.P.underlying T = some .string) (hn : n = i) (hs : s.data.toList.map UInt8.toNat = (List.range N).map f) (hi : i < N) : OpOk C ⟨dst, .index T (.const (.string s)) y, ty, pos, after, g⟩ ρ L ((kInt .u8).is (f i : Int)) L := OpOk.val fun m w a _ t => by
  subst hn
  have hl : s.size = N := by
    have := congrArg List.length hs
    rw [List.length_map, List.length_map, List.length_range] at this
    exact this
  have hb : ((s[i]'(by omega)).toNat : Int) = (f i : Int) := by
    have := congrArg (·[i]?) hs
    simp only [List.getElem?_map, List.getElem?_range hi, Option.map_some] at this
    have hil : i < s.data.toList.length := by
      have : s.data.toList.length = s.size := rfl
      omega
    rw [List.getElem?_eq_getElem hil] at this
    simp only [Option.map_some, Option.some.injEq, Array.getElem_toList] at this
    rw [← this]; rfl
  refine ⟨_, ?_, int_p ..⟩
  have h1 := run_index_string (P := C.P) w T s k (i : Int) hu
  have hc : (0 : Int) ≤ (i : Int) ∧ (i : Int) < (s.size : Int) := by omega
  rw [dif_pos hc] at h1
  have he : a.eval (.const (.string s)) = .string s := rfl
  simp only [execOp, he, t.int hy, Sem.run_bind, h1, Result.andThen_ok, Int.toNat_natCast, hb]
  rfl

/-- A window into a slice of the call's own: from cell o on, n elements. -/
def VP.win (v : Value) (o n : Nat) : VP := ⟨fun _ u => ∃ b n' c cap, v = .slice (some ⟨b, 0, none⟩) n' c ∧ u = .slice (some ⟨b, o, none⟩) n cap, fun _ h => h⟩
theorem O.lenW {x : Operand} {T e : TypeId} {v : Value} {o n : Nat} (hx : ev ρ x = some (VP.win v o n)) (hu : C.P.underlying T = some (.slice e)) : OpOk C ⟨dst, .call ⟨.builtin .len, #[x], #[T]⟩, ty, pos, after, g⟩ ρ L ((kInt .i64).is (n : Int)) L := OpOk.val fun m w f s t => by
  obtain ⟨b, n', c, cap, rfl, h⟩ := t.evl hx
  refine ⟨_, ?_, int_p ..⟩
  simp [execOp, resolve, invoke, builtin, Builtin.len_, h, run_underlying hu, goInt]
theorem O.ixW {x y : Operand} {ki : IntKind} {n : Int} {T e' : TypeId} {agg : Bool} {v : Value} {o c sz : Nat} (i : Nat) (hx : ev ρ x = some (VP.win v o c)) (hy : ev ρ y = some ((kInt ki).is n)) (hu : C.P.underlying T = some (.slice e')) (ht : TyOk C.P e' agg sz) (hn : n = i) (hlt : i < c) : OpOk C ⟨dst, .indexAddr T x y, ty, pos, after, g⟩ ρ L (VP.pel v (o + i * sz)) L := OpOk.val fun m w a s t => by
  subst hn
  obtain ⟨b, n', c', cap, rfl, hp⟩ := t.evl hx
  refine ⟨_, ?_, b, _, _, rfl, rfl⟩
  simp only [execOp, hp, t.int hy, Sem.run_bind, run_indexAt hu ht w ki i _ cap hlt b o, Result.andThen_ok]; rfl
/-- x[l:h] of a slice of the call's own, as a window. -/
theorem O.slW {α : Type} {k : Kd α} {xs : List α} {v : Value} {x y z : Operand} {ki kj : IntKind} {n n' : Int} {T e e' : TypeId} {agg : Bool} (l h : Nat) (hx : ev ρ x = some (VP.ex v)) (hy : ev ρ y = some ((kInt ki).is n)) (hz : ev ρ z = some ((kInt kj).is n')) (hj : OB.row v e' k xs ∈ L) (hu : C.P.underlying T = some (.slice e)) (ht : TyOk C.P e agg k.sz) (hn : n = l) (hn' : n' = h) (hlh : l < h) (hle : h ≤ xs.length) : OpOk C ⟨dst, .slice T x (some y) (some z) none, ty, pos, after, g⟩ ρ L (VP.win v (l * k.sz) (h - l)) L := OpOk.val fun m w f s t => by
  subst hn hn'
  obtain ⟨cells, o1, o2, o3⟩ := row_own s hj
  rcases o1.2 with ⟨rfl, hxs⟩ | ⟨b, cap, cur, rfl, _, hA, hcap, hm, hsz, hcur⟩
  · omega
  · have hb : (Instr.sliceBounds true xs.length cap (some (.int ki (l : Int))) (some (.int kj (h : Int))) none).run C.P w = .ok (l, h, cap) w := by
      simp [Instr.sliceBounds, run_bound (P := C.P) w ki l h _ (Nat.le_of_lt hlh), run_bound (P := C.P) w kj h cap _ (Nat.le_trans hle hcap)]
    refine ⟨_, ?_, b, _, _, cap - l, rfl, rfl⟩
    simp only [execOp, t.ex hx, t.int hy, t.int hz, Option.map_some, Option.map_none, Sem.run_bind, run_slice hu ht w _ xs.length cap l h cap _ _ _ hb, Result.andThen_ok]
    rw [if_neg (by omega)]
    simp [Addr.add_lit]
/-- x[:h] of a slice of the call's own, which it is from now on. -/
theorem WP.slR {α : Type} {k : Kd α} {xs : List α} {v : Value} {d : Tmp} {x z : Operand} {kj : IntKind} {n' : Int} {T e e' : TypeId} {agg : Bool} (j h : Nat) (hr : Run ops ρ ⟨some d, .slice T x none (some z) none, ty, pos, after, g⟩) (hx : ev ρ x = some (VP.ex v)) (hz : ev ρ z = some ((kInt kj).is n')) (hj : L[j]? = some (OB.row v e' k xs)) (hu : C.P.underlying T = some (.slice e)) (ht : TyOk C.P e agg k.sz) (hn' : n' = h) (hle : h ≤ xs.length)
    (hk : ∀ v', WP C ops Q rest ((d, VP.ex v') :: ρ) (L.set j (OB.row v' e' k (xs.take h)))) (hd : Nat.blt d C.N = true := by rfl) : WP C ops Q (⟨some d, .slice T x none (some z) none, ty, pos, after, g⟩ :: rest) ρ L := fun m w a s t => by
  subst hn'
  obtain ⟨cells, o1, o2, o3⟩ := row_own s (List.mem_of_getElem? hj)
  unfold wpList
  rw [if_pos (hr _ m a t)]
  refine .inl ?_
  unfold Oper.wp
  have hlen : (xs.take h).length = h := by simp; omega
  rcases o1.2 with ⟨rfl, hxs⟩ | ⟨b, cap, cur, rfl, _, hA, hcap, hm, hsz, hcur⟩
  · have hh : h = 0 := by omega
    have hb : (Instr.sliceBounds true 0 0 none (some (.int kj (h : Int))) none).run C.P w = .ok (0, h, 0) w := by
      simp [Instr.sliceBounds, run_bound (P := C.P) w kj h 0 _ (by omega)]
    have hrun : (execOp a.eval ⟨some d, .slice T x none (some z) none, ty, pos, after, g⟩).run C.P w = .ok (.value (.slice none 0 0)) w := by
      simp only [execOp, t.ex hx, t.int hz, Option.map_some, Option.map_none, Sem.run_bind, run_slice hu ht w none 0 0 0 h 0 _ _ _ hb, Result.andThen_ok]
      subst hh
      rfl
    subst hh
    rw [hrun]
    have hxs0 : xs = [] := List.eq_nil_of_length_eq_zero hxs
    subst hxs0
    have hset : L.set j (OB.row (.slice none 0 0) e' k ([] : List α)) = L := by
      obtain ⟨hlt, hget⟩ := List.getElem?_eq_some_iff.1 hj
      rw [← hget]; simp
    refine hk _ m w _ (by simp only [List.take_nil]; rw [hset]; exact s) (t.put rfl hd)
  · have hb : (Instr.sliceBounds true xs.length cap none (some (.int kj (h : Int))) none).run C.P w = .ok (0, h, cap) w := by
      simp [Instr.sliceBounds, run_bound (P := C.P) w kj h cap _ (Nat.le_trans hle hcap)]
    have hrun : (execOp a.eval ⟨some d, .slice T x none (some z) none, ty, pos, after, g⟩).run C.P w = .ok (.value (.slice (some ⟨b, 0, none⟩) h cap)) w := by
      simp only [execOp, t.ex hx, t.int hz, Option.map_some, Option.map_none, Sem.run_bind, run_slice hu ht w _ xs.length cap 0 h cap _ _ _ hb, Result.andThen_ok]
      by_cases hc : cap = 0
      · simp [hc]
      · rw [if_neg hc]; simp [Addr.add_lit]
    rw [hrun]
    have hrow := o2.take h
    rw [hlen] at hrow
    have hcl := o2.len
    have hle2 : h * k.sz ≤ xs.length * k.sz := Nat.mul_le_mul_right _ hle
    refine hk _ m w _ (s.turn j _ _ hj (Grow.refl _ w) ⟨cells.take (h * k.sz), ⟨?_, .inr ⟨b, cap, cur, ?_, Nat.zero_le _, hA, ?_, hm, hsz, ?_⟩⟩, hrow, by omega⟩ ?_) (t.put rfl hd)
    · simp [hlen]; omega
    · rw [hlen]
    · omega
    · rw [hlen, ← hcur, List.take_take, Nat.min_eq_left hle2]
    · intro i hi
      left
      simpa [OB.row, Value.ownBlock] using hi
end
theorem win_le {v : Value} {o o' n n' : Nat} (h : o = o') (h' : n = n') : VP.le (VP.win v o n) (VP.win v o' n') := by subst h h'; exact VP.le_refl _
end Fw
