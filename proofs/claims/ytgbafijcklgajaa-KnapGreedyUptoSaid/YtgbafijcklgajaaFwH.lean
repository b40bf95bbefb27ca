/- The frame of the walks: calls and literals as plain operations, the checks of a drawn region, copies, least and greatest. -/
import Derived.Test.YtgbafijcklgajaaFwG
set_option linter.unusedVariables false
set_option linter.unusedSimpArgs false
namespace Fw
open Go

section
variable {C : Ctx} {Q : Exit → Act → World → Prop} {ρ ρ' : Env} {L L' L0 : List OB} {ops : Array Oper} {rest : List Oper}
  {dst : Option Tmp} {ty : TypeId} {pos : String} {after : Array Edge} {g : Option (Nat × Bool)}

theorem run_call {P : Program} {a : Act} {w : World} {f : FuncId} {xs : List Operand} {tys : Array TypeId} (hf : FnOk P f) : (execOp a.eval ⟨dst, .call ⟨.value (.func f), xs.toArray, tys⟩, ty, pos, after, g⟩).run P w = .ok (.enter f (xs.map a.eval).toArray) w := by
  obtain ⟨fn, f1, f2, f3⟩ := hf
  have f2' : ¬ (fn.name = "runtime.NumGoroutine") := by simpa using f2
  have f3' : ¬ (fn.body = none) := by cases hb : fn.body <;> simp_all
  have hev : a.eval (.func f) = .func (.func f) #[] #[] := rfl
  have hp : ∀ w, (program).run P w = .ok P w := fun _ => rfl
  simp [execOp, resolve, Deferred.ofValue, invoke, callFunc, hp, hev, f1, f2', f3']
/-- A plain call. -/
theorem O.fn {f : FuncId} {xs : List Operand} {tys : Array TypeId} {pre : List VP} {res : VP} (hf : FnOk C.P f) (ha : evs ρ xs pre) (hc : Fn C.P f pre res) : OpOk C ⟨dst, .call ⟨.value (.func f), xs.toArray, tys⟩, ty, pos, after, g⟩ ρ L res L := fun m w a s t next Q k => by
  unfold Oper.wp
  rw [run_call hf]
  refine (hc m w _ s.fits (evs.args t ha) (Sat.given (Li := []) (L := L) s)).mono ?_
  rintro e w' ⟨m', v, p, Lo, rfl, s', hp, rfl, rfl⟩
  exact k m' w' v s'.le (Sat.after (Li := []) (L := L) s s') hp
/-- []T{..}, told as read-only. -/
theorem O.bs {α : Type} {k : Kd α} {ys : List α} {T e : TypeId} {n : Nat} {parts : List (Nat × Operand)} (hu : C.P.underlying T = some (.slice e)) (he : ElOk C.P e k) (hp : evl ρ k 0 parts ys) (hn : ys.length = n) (hn2 : n * k.sz ≤ 16777216) : OpOk C ⟨dst, .buildSlice T n parts.toArray, ty, pos, after, g⟩ ρ L ((kSl k).is ys) L := fun m w a s t next Q kk => by
  have hsz := he
  obtain ⟨i, z, h1, h2, h3, h4, h5, h6⟩ := hsz
  have hnn : n ≤ n * k.sz := Nat.le_mul_of_pos_right _ h6
  obtain ⟨B, hB, hrun⟩ := run_buildSlice (Φ := fun B => Rows k m B.toList ys) hu he w n (parts.toArray.map fun p => (p.1, a.eval p.2)) hn2 (fun A hA => by
    obtain ⟨B, cells, r1, r2, r3⟩ := fill_list t (A := A) hp (by simp [hn, hA])
    simp only [Nat.zero_mul, List.take_zero, List.nil_append] at r3
    exact ⟨B, by simpa using r1, by rw [r3]; exact r2⟩)
  have hrun' : (execOp a.eval ⟨dst, .buildSlice T n parts.toArray, ty, pos, after, g⟩).run C.P w = .ok (.value (.slice (some ⟨w.heap.size, 0, none⟩) n n)) (w.alloc (.cells B e)) := by
    simp only [execOp, Sem.run_bind, hrun, Result.andThen_ok]
    rfl
  unfold Oper.wp
  rw [hrun']
  have hgrow : Grow [] w (w.alloc (.cells B e)) := ⟨rfl, rfl, rfl, by simp, fun i hi _ => RowKit.Below.heap_alloc w _ i hi⟩
  have hm0 : m w.heap.size = none := by
    cases hm : m w.heap.size with
    | none => rfl
    | some c => have := s.fits.lt hm; omega
  have hle := Mem.le_add (m := m) (b := w.heap.size) (c := B.toList) hm0
  have s1 := s.lift hle (m' := m.add w.heap.size B.toList) (w' := w.alloc (.cells B e)) (by
    intro x y hx
    by_cases hxi : x = w.heap.size
    · subst hxi
      simp only [Mem.add, if_true, Option.some.injEq] at hx
      subst hx
      exact ⟨B, e, (0, 0), [], heap_alloc_new w _, by simp⟩
    · simp only [Mem.add, hxi, if_false] at hx
      exact s.fits.grow hgrow (by simp) x y hx) hgrow (by
    intro x hx h0
    simp only [Mem.add]
    rw [if_neg (by omega)]
    exact h0)
  exact kk _ _ _ hle s1 ⟨_, rfl, some ⟨w.heap.size, 0, none⟩, n, by rw [hn], by omega, by omega, .inr ⟨w.heap.size, 0, B.toList, B.toList, rfl, by simp [Mem.add], ⟨[], [], by simp, rfl⟩, hB.mono hle⟩⟩

theorem nil_le {α : Type} (k : Kd α) : VP.le (VP.ex (.slice none 0 0)) ((kSl k).is []) := by
  rintro m v rfl
  exact ⟨_, rfl, none, 0, rfl, by simp, by simp, .inl rfl⟩

/-! ### Obligations in a drawn region -/
theorem Ob.f {Γ : List Pl} {i : Nat} {d : Tmp} {op : Op} {p : VP} (hi : ops[i]? = some ⟨some d, op, ty, pos, after, g⟩) (hr : Run ops (depEnv ops Γ (deps ops i) ++ ρ) ⟨some d, op, ty, pos, after, g⟩) (ho : ∀ N, OpOk C ⟨some d, op, ty, pos, after, g⟩ (depEnv ops Γ (deps ops i) ++ ρ) (N ++ L0) p (N ++ L0)) : Ob C ops Q ρ L0 Γ i (.fr p) := fun N m w a s t K h => by
  have hd : dstOf ops i = d := by simp [dstOf, hi]
  unfold wpOp
  simp only [hi]
  rw [if_pos (hr _ m a t)]
  refine .inl (ho N m w a s t K Q fun m' w' v hm s' hp => ?_)
  have := h m' w' v hm s' hp
  rwa [hd] at this
theorem Ob.k {Γ : List Pl} {i : Nat} {d : Tmp} {op : Op} {j t0 : Nat} {b : Bool} (hi : ops[i]? = some ⟨some d, op, ty, pos, after, some (j, !b)⟩) (hj : (ops[j]?).bind (·.dst) = some t0) (e : (depEnv ops Γ (deps ops i) ++ ρ).get t0 = some (kBool.is b)) : Ob C ops Q ρ L0 Γ i (.fr VP.tt) := fun N m w a s t K h => by
  have hd : dstOf ops i = d := by simp [dstOf, hi]
  unfold wpOp
  simp only [hi]
  rw [if_neg (by simp [Region.wanted, yields_of t hj e])]
  have := h m w undef (Mem.le_refl m) s trivial
  rwa [hd] at this
theorem Ob.a {α : Type} {k : Kd α} {z : α} {Γ : List Pl} {i : Nat} {d : Tmp} {e : TypeId} (hi : ops[i]? = some ⟨some d, .alloc e, ty, pos, after, none⟩) (hz : ZeroOk C.P e k z) : Ob C ops Q ρ L0 Γ i (.al fun b => OB.box b e k z) := fun N m w a s t K h => by
  have hd : dstOf ops i = d := by simp [dstOf, hi]
  obtain ⟨ii, v, h1, h2, h3⟩ := hz
  unfold wpOp
  simp only [hi]
  rw [if_pos (by simp [Region.wanted])]
  refine .inl ?_
  have hrun : (execOp a.eval ⟨some d, .alloc e, ty, pos, after, none⟩).run C.P w = .ok (.value (.pointer (some ⟨w.heap.size, 0, none⟩))) (w.alloc (.cells v.cells.toList.toArray e)) := by
    simp [execOp, Instr.alloc, zeroValue, typeInfo, h1, h2, newVar, newRow]
  unfold Oper.wp
  rw [hrun]
  have := h m _ w.heap.size (Mem.le_refl m) (alloc_box s (h3 m))
  rwa [hd] at this
/-- An operation that looks at no memory. -/
def OV (C : Ctx) (o : Oper) (ρ : Env) (p : VP) : Prop := ∀ m a, Has C.N m a ρ → ∃ v, (∀ w, (execOp a.eval o).run C.P w = .ok (.value v) w) ∧ p.p m v
theorem Ob.l {Γ : List Pl} {i : Nat} {o : Oper} {p : VP} (hi : ops[i]? = some o) (hr : Run ops (depEnv ops Γ (deps ops i) ++ ρ) o) (ho : OV C o (depEnv ops Γ (deps ops i) ++ ρ) p) : Ob C ops Q ρ L0 Γ i (.lt p) := fun m a t => by
  obtain ⟨v, h1, h2⟩ := ho m a t
  exact ⟨o, v, hi, .inl ⟨hr _ m a t, h1⟩, h2⟩
theorem OV.mv {x : Operand} {p : VP} (e : ev ρ x = some p) : OV C ⟨dst, .move x, ty, pos, after, g⟩ ρ p := fun m a t => ⟨_, fun w => rfl, t.evl e⟩
theorem OV.ext {x : Operand} {i : Nat} {ps : List VP} {p : VP} (hx : ev ρ x = some (VP.tup ps)) (hi : ps[i]? = some p) : OV C ⟨dst, .extract x i, ty, pos, after, g⟩ ρ p := fun m a t => by
  obtain ⟨vs, e1, e2⟩ := t.evl hx
  obtain ⟨v, h1, h2⟩ := e2.get i p hi
  refine ⟨v, fun w => ?_, h2⟩
  simp [execOp, Instr.extract, e1, h1]
theorem OV.fa {x : Operand} {T : TypeId} {f b o off o' : Nat} (hx : ev ρ x = some (VP.ex (.pointer (some ⟨b, o, none⟩)))) (hf : FldOk C.P T f off) (ho : o + off = o') : OV C ⟨dst, .fieldAddr T x f, ty, pos, after, g⟩ ρ (VP.ex (.pointer (some ⟨b, o', none⟩))) := ho ▸ fun m a t =>
  ⟨_, fun w => by simp only [execOp, t.ex hx, Sem.run_bind, run_fieldAt hf w b o, Result.andThen_ok]; rfl, rfl⟩
theorem OV.bld {α : Type} {k : Kd α} {T : TypeId} {parts : List (Nat × Operand)} {ps : List (Nat × VP)} {pl : Nat → Option (Nat × Nat)} {z x : α} (ht : LitOk C.P T k pl z) (hk : k.agg = true) (he : evp ρ parts ps) (hb : BP k pl ps z x) : OV C ⟨dst, .build T parts.toArray, ty, pos, after, g⟩ ρ (k.is x) := fun m f t => by
  obtain ⟨A, h1, h2⟩ := ht
  obtain ⟨r1, r2⟩ := evp.args t he
  obtain ⟨B, hB, hx⟩ := fill_ok hb r1 r2 (h2 m)
  refine ⟨.agg B, fun w => ?_, B.toList, by simp [Kd.val, hk], hx⟩
  have := run_build (P := C.P) w T (parts.toArray.map fun p => (p.1, f.eval p.2)) B (by rw [h1]; simpa using hB)
  simp only [execOp, Sem.run_bind, this, Result.andThen_ok]
  rfl

def reachB (ops : Array Oper) : Nat → Nat → Nat → Bool
  | 0, _, _ => false
  | n + 1, k, i => (deps ops k).contains i || (deps ops k).any fun j => reachB ops n j i
theorem reachB_ok (ops : Array Oper) : ∀ n k i, reachB ops n k i = true → reach ops n k i = true
  | 0, _, _, h => by cases h
  | n + 1, k, i, h => by
    simp only [reachB, Bool.or_eq_true, List.contains_iff_mem, List.any_eq_true] at h
    simp only [reach, List.any_eq_true, Bool.or_eq_true, beq_iff_eq]
    rcases h with h | ⟨j, h1, h2⟩
    · exact ⟨i, h, .inl rfl⟩
    · exact ⟨j, h1, .inr (reachB_ok ops n j i h2)⟩
def chkB (N : Nat) (ops : Array Oper) (k : Nat) (lates : List Bool) : Bool :=
  Nat.ble k ops.size &&
  ((List.range k).all fun i => match ops[i]? with | some o => o.dst.isSome && Nat.blt (dstOf ops i) N | none => false) &&
  ((List.range k).all fun i => (List.range k).all fun j => Nat.beq i j || !(Nat.beq (dstOf ops i) (dstOf ops j))) &&
  ((List.range ops.size).all fun i => (deps ops i).all fun j => Nat.blt j i) &&
  ((List.range k).all fun i => lates.getD i false || (List.range ops.size).all fun q => Nat.blt q k || reachB ops 12 q i) &&
  ((List.range ops.size).all fun q => Nat.ble q k || (deps ops q).contains (q - 1)) &&
  Region.noSelect ops &&
  ((List.range k).all fun i => !(lates.getD i false) || Region.free .any ops (depArr ops i) i)
theorem Chk.of {N : Nat} {Γ : List Pl} {lates : List Bool} (hl : Γ.map Pl.late = lates) (h : chkB N ops Γ.length lates = true) (hρ : (List.range Γ.length).all (fun i => (ρ.get (dstOf ops i)).isNone) = true) : Chk N ops ρ Γ lates := by
  simp only [chkB, Bool.and_eq_true, List.all_eq_true, List.mem_range, Nat.blt_eq, Nat.ble_eq, Bool.or_eq_true, Bool.not_eq_true', Nat.beq_eq, List.contains_iff_mem] at h
  obtain ⟨⟨⟨⟨⟨⟨⟨h1, h2⟩, h3⟩, h4⟩, h5⟩, h6⟩, h7⟩, h8⟩ := h
  refine ⟨hl, h1, fun i hi => ?_, fun i j hi hj hd => ?_, fun i hi j hj => h4 i hi j hj, fun i hi hli k hk hkn => ?_, fun k hk hkn => ?_, h7, fun i hi hli => ?_⟩
  · have := h2 i hi
    have hρ' : (ρ.get (dstOf ops i)).isNone = true := by
      simp only [List.all_eq_true, List.mem_range] at hρ
      exact hρ i hi
    cases ho : ops[i]? with
    | none => simp [ho] at this
    | some o =>
      simp only [ho, Bool.and_eq_true, Nat.blt_eq] at this
      refine ⟨o, rfl, ?_, this.2, by simpa using hρ'⟩
      cases hd : o.dst with
      | none => simp [hd] at this
      | some d => simp [dstOf, ho, hd]
  · rcases h3 i hi j hj with h | h
    · exact h
    · exact absurd hd (by intro hd; simp [hd] at h)
  · rcases h5 i hi with h | h
    · rw [hli] at h; cases h
    · rcases h k hkn with h | h
      · omega
      · exact reachB_ok _ _ _ _ h
  · rcases h6 k hkn with h | h
    · omega
    · exact h
  · rcases h8 i hi with h | h
    · rw [hli] at h; cases h
    · exact h

/-! ### copy -/
theorem splice_rows {α : Type} {k : Kd α} {m : Mem} {xs ys : List α} {c d : List Value} (h1 : Rows k m c xs) (h2 : Rows k m d ys) (n : Nat) (hx : n ≤ xs.length) (hy : n ≤ ys.length) : Rows k m (d.take (n * k.sz) ++ c.drop (n * k.sz)) (ys.take n ++ xs.drop n) := by
  have r1 := h2.take n
  have r2 := h1.drop n
  have e1 : (ys.take n).length * k.sz = n * k.sz := by congr 1; simp; omega
  have e2 : (xs.take n).length * k.sz = n * k.sz := by congr 1; simp; omega
  rw [e1] at r1
  rw [e2] at r2
  exact r1.append r2
/-- copy(row, what is read). -/
theorem O.cp {α : Type} {k : Kd α} {xs ys : List α} {v : Value} {q : VP} {x y : Operand} {T T' e : TypeId} (j : Nat) (hx : ev ρ x = some (VP.ex v)) (hj : L[j]? = some (OB.row v e k xs)) (hy : ev ρ y = some q) (hq : VP.le q ((kSl k).is ys)) (hu : C.P.underlying T = some (.slice e)) (he : ElOk C.P e k) : OpOk C ⟨dst, .call ⟨.builtin .copy, #[x, y], #[T, T']⟩, ty, pos, after, g⟩ ρ L VP.tt (L.set j (OB.row v e k (ys.take (min ys.length xs.length) ++ xs.drop (min ys.length xs.length)))) := OpOk.valW fun m w a s t => by
  obtain ⟨i, z, h1, h2, h3, h4, h5, h6⟩ := he
  obtain ⟨cells, o1, o2, o3⟩ := row_own s (List.mem_of_getElem? hj)
  obtain ⟨ad, cap, e1, e2, e3, e4⟩ := Kd.is_sl (hq _ _ (t.evl hy))
  generalize hn : min ys.length xs.length = n
  have hnx : n ≤ xs.length := by omega
  have hny : n ≤ ys.length := by omega
  rcases o1.2 with ⟨rfl, hx0⟩ | ⟨b, cp, cur, rfl, _, hA, hcap, hm, hsz, hcur⟩
  · have hxs : xs = [] := List.eq_nil_of_length_eq_zero hx0
    subst hxs
    have hn0 : n = 0 := by simp at hnx; exact hnx
    subst hn0
    refine ⟨goInt 0, w, ?_, ?_, trivial⟩
    · have hfc : (Builtin.firstCells i.size 0 (.slice ad ys.length cap)).run C.P w = .ok #[] w := by
        cases ad with
        | none => exact run_firstCells_none w _ _ _ _
        | some ad => simpa using run_firstCells_some (P := C.P) w i.size 0 ad ys.length cap [] (by simp) (by simp)
      have hmin : Nat.min ys.length 0 = 0 := Nat.min_zero _
      simp [execOp, resolve, invoke, builtin, t.ex hx, e1, Builtin.copy_, run_underlying hu, Builtin.lenOf, hmin, Go.sizeOf, typeInfo, h1, hfc]
    · simp only [List.take_zero, List.drop_nil, List.append_nil]
      have : L.set j (OB.row (.slice none 0 0) e k ([] : List α)) = L := by
        obtain ⟨hlt, hget⟩ := List.getElem?_eq_some_iff.1 hj
        rw [← hget]; simp
      rw [this]; exact s
  · have hcl := o2.len
    have hcl2 : cur.toList.length = cp * k.sz := by simpa using hsz
    have hle1 : n * k.sz ≤ xs.length * k.sz := Nat.mul_le_mul_right _ hnx
    have hle2 : xs.length * k.sz ≤ cp * k.sz := Nat.mul_le_mul_right _ hcap
    have hsrc : ∃ news, Rows k m news ys ∧ (Builtin.firstCells i.size n (.slice ad ys.length cap)).run C.P w = .ok (news.take (n * k.sz)).toArray w := by
      rcases e4 with rfl | ⟨b', o, c, news, rfl, f1, f2, f3⟩
      · have hn0 : n = 0 := by simp at hny; exact hny
        subst hn0
        refine ⟨[], rfl, ?_⟩
        cases ad with
        | none => simpa using run_firstCells_none (P := C.P) w _ _ _ _
        | some ad => simpa using run_firstCells_some (P := C.P) w i.size 0 ad 0 cap [] (by simp) (by simp)
      · refine ⟨news, f3, ?_⟩
        have hnl := f3.len
        have hle : n * k.sz ≤ ys.length * k.sz := Nat.mul_le_mul_right _ hny
        refine run_firstCells_some (P := C.P) w i.size n ⟨b', o, none⟩ ys.length cap (news.take (n * k.sz)) (by rw [h3]; simp; omega) (fun q u hq => ?_)
        rw [Addr.add_lit]
        have hql : q < n * k.sz := by
          have := (List.getElem?_eq_some_iff.1 hq).1
          simp at this; omega
        rw [List.getElem?_take_of_lt hql] at hq
        exact f2.cells s.fits f1 q u hq
    obtain ⟨news, r1, r2⟩ := hsrc
    have hnl := r1.len
    have hle : n * k.sz ≤ ys.length * k.sz := Nat.mul_le_mul_right _ hny
    have htl : (news.take (n * k.sz)).length = n * k.sz := by simp; omega
    have hst := run_storeCells_at C.P b 0 e (news.take (n * k.sz)) 0 cur w hA (by rw [htl]; simp at hcl2; omega) (fun u hu => r1.flat u (List.mem_of_mem_take hu))
    simp only [Nat.add_zero, Nat.zero_add, List.take_zero, List.nil_append, htl] at hst
    have hrow := splice_rows o2 r1 n hnx hny
    have hlen : (ys.take n ++ xs.drop n).length = xs.length := by simp; omega
    have hset := set_row s hj hA hcap hm hsz hlen hcl hcur o3 hrow
    have heq : (news.take (n * k.sz) ++ cells.drop (n * k.sz)) ++ cur.toList.drop (xs.length * k.sz) = news.take (n * k.sz) ++ cur.toList.drop (n * k.sz) := by
      rw [List.append_assoc]
      congr 1
      rw [← hcur, List.drop_take]
      conv => rhs; rw [← List.take_append_drop (xs.length * k.sz - n * k.sz) (cur.toList.drop (n * k.sz)), List.drop_drop]
      congr 2
      omega
    rw [heq] at hset
    refine ⟨goInt n, _, ?_, hset, trivial⟩
    have hmin : Nat.min ys.length xs.length = n := hn
    simp [execOp, resolve, invoke, builtin, t.ex hx, e1, Builtin.copy_, run_underlying hu, Builtin.lenOf, hmin, Go.sizeOf, typeInfo, h1, r2, hst]

/-! ### min, max -/
theorem O.mn {x y : Operand} {k : IntKind} {a b : Int} {tys : Array TypeId} (hx : ev ρ x = some ((kInt k).is a)) (hy : ev ρ y = some ((kInt k).is b)) : OpOk C ⟨dst, .call ⟨.builtin .min, #[x, y], tys⟩, ty, pos, after, g⟩ ρ L ((kInt k).is (min a b)) L := OpOk.val fun m w f s t => by
  refine ⟨.int k (min a b), ?_, int_p ..⟩
  have : (if b < a then b else a) = min a b := by omega
  simp [execOp, resolve, invoke, builtin, t.int hx, t.int hy, Builtin.min_, Builtin.min2, this]
theorem O.mx {x y : Operand} {k : IntKind} {a b : Int} {tys : Array TypeId} (hx : ev ρ x = some ((kInt k).is a)) (hy : ev ρ y = some ((kInt k).is b)) : OpOk C ⟨dst, .call ⟨.builtin .max, #[x, y], tys⟩, ty, pos, after, g⟩ ρ L ((kInt k).is (max a b)) L := OpOk.val fun m w f s t => by
  refine ⟨.int k (max a b), ?_, int_p ..⟩
  have : (if a < b then b else a) = max a b := by omega
  simp [execOp, resolve, invoke, builtin, t.int hx, t.int hy, Builtin.max_, Builtin.max2, this]
end
end Fw
