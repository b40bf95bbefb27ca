/- The frame of the walks: one law for each operation. -/
import Derived.Test.YtgbafijcklgajaaFwC
import Derived.Deep.Upon
set_option linter.unusedVariables false
set_option linter.unusedSimpArgs false
namespace Fw
open Go

section
variable {C : Ctx} {Q : Exit → Act → World → Prop} {ρ : Env} {L L' : List OB} {ops : Array Oper} {rest : List Oper}
  {dst : Option Tmp} {ty : TypeId} {pos : String} {after : Array Edge} {g : Option (Nat × Bool)}

theorem Has.int {N : Nat} {m : Mem} {a : Act} {x : Operand} {k : IntKind} {n : Int} (t : Has N m a ρ) (e : ev ρ x = some ((kInt k).is n)) : a.eval x = .int k n := by
  obtain ⟨cs, h1, h2⟩ := t.evl e
  rw [h1, h2]; rfl
theorem Has.bool {N : Nat} {m : Mem} {a : Act} {x : Operand} {b : Bool} (t : Has N m a ρ) (e : ev ρ x = some (kBool.is b)) : a.eval x = .bool b := by
  obtain ⟨cs, h1, h2⟩ := t.evl e
  rw [h1, h2]; rfl
theorem Has.ex {N : Nat} {m : Mem} {a : Act} {x : Operand} {v : Value} (t : Has N m a ρ) (e : ev ρ x = some (VP.ex v)) : a.eval x = v := t.evl e
theorem int_p (m : Mem) (k : IntKind) (n : Int) : ((kInt k).is n).p m (.int k n) := ⟨_, rfl, rfl⟩
theorem bool_p (m : Mem) (b : Bool) : (kBool.is b).p m (.bool b) := ⟨_, rfl, rfl⟩
theorem OpOk.le {o : Oper} {p q : VP} (h : OpOk C o ρ L p L') (hl : VP.le p q) : OpOk C o ρ L q L' := fun m w a s t next Q k => h m w a s t next Q fun m' w' v hm s' hp => k m' w' v hm s' (hl _ _ hp)

theorem O.mv {x : Operand} {p : VP} (e : ev ρ x = some p) : OpOk C ⟨dst, .move x, ty, pos, after, g⟩ ρ L p L := OpOk.val fun m w a s t => ⟨_, rfl, t.evl e⟩
theorem O.asg {x : Operand} {p : VP} (e : ev ρ x = some p) : OpOk C ⟨dst, .assign x, ty, pos, after, g⟩ ρ L p L := OpOk.val fun m w a s t => ⟨_, rfl, t.evl e⟩
theorem O.pickT {c x y : Operand} {p : VP} (hc : ev ρ c = some (kBool.is true)) (e : ev ρ x = some p) : OpOk C ⟨dst, .pick c x y, ty, pos, after, g⟩ ρ L p L := OpOk.val fun m w a s t =>
  ⟨a.eval x, by simp [execOp, t.bool hc, asBool], t.evl e⟩
theorem O.pickF {c x y : Operand} {p : VP} (hc : ev ρ c = some (kBool.is false)) (e : ev ρ y = some p) : OpOk C ⟨dst, .pick c x y, ty, pos, after, g⟩ ρ L p L := OpOk.val fun m w a s t =>
  ⟨a.eval y, by simp [execOp, t.bool hc, asBool], t.evl e⟩

section ints
variable {x y : Operand} {xt yt : TypeId} {k k' : IntKind} {a b c : Int}
theorem O.add (hx : ev ρ x = some ((kInt k).is a)) (hy : ev ρ y = some ((kInt k).is b)) (h : k.wrap (a + b) = c) : OpOk C ⟨dst, .binOp .add xt x y yt, ty, pos, after, g⟩ ρ L ((kInt k).is c) L := OpOk.val fun m w f s t =>
  ⟨.int k c, by simp [execOp, t.int hx, t.int hy, eqGuard, binOp, Op.intArith, h], int_p ..⟩
theorem O.sub (hx : ev ρ x = some ((kInt k).is a)) (hy : ev ρ y = some ((kInt k).is b)) (h : k.wrap (a - b) = c) : OpOk C ⟨dst, .binOp .sub xt x y yt, ty, pos, after, g⟩ ρ L ((kInt k).is c) L := OpOk.val fun m w f s t =>
  ⟨.int k c, by simp [execOp, t.int hx, t.int hy, eqGuard, binOp, Op.intArith, h], int_p ..⟩
theorem O.mul (hx : ev ρ x = some ((kInt k).is a)) (hy : ev ρ y = some ((kInt k).is b)) (h : k.wrap (a * b) = c) : OpOk C ⟨dst, .binOp .mul xt x y yt, ty, pos, after, g⟩ ρ L ((kInt k).is c) L := OpOk.val fun m w f s t =>
  ⟨.int k c, by simp [execOp, t.int hx, t.int hy, eqGuard, binOp, Op.intArith, h], int_p ..⟩
theorem O.quo (hx : ev ρ x = some ((kInt k).is a)) (hy : ev ρ y = some ((kInt k).is b)) (hb : b ≠ 0) (h : k.wrap (a.tdiv b) = c) : OpOk C ⟨dst, .binOp .quo xt x y yt, ty, pos, after, g⟩ ρ L ((kInt k).is c) L := OpOk.val fun m w f s t =>
  ⟨.int k c, by simp [execOp, t.int hx, t.int hy, eqGuard, binOp, Op.intDiv, hb, h], int_p ..⟩
theorem O.rem (hx : ev ρ x = some ((kInt k).is a)) (hy : ev ρ y = some ((kInt k).is b)) (hb : b ≠ 0) (h : a.tmod b = c) : OpOk C ⟨dst, .binOp .rem xt x y yt, ty, pos, after, g⟩ ρ L ((kInt k).is c) L := OpOk.val fun m w f s t =>
  ⟨.int k c, by simp [execOp, t.int hx, t.int hy, eqGuard, binOp, Op.intDiv, hb, h], int_p ..⟩
theorem O.shl (hx : ev ρ x = some ((kInt k).is a)) (hy : ev ρ y = some ((kInt k').is b)) (hb : 0 ≤ b) (h : k.wrap (a * 2 ^ (min b.toNat k.bits)) = c) : OpOk C ⟨dst, .binOp .shl xt x y yt, ty, pos, after, g⟩ ρ L ((kInt k).is c) L := OpOk.val fun m w f s t =>
  ⟨.int k c, by simp [execOp, t.int hx, t.int hy, eqGuard, binOp, Op.shift, Int.not_lt.2 hb, h], int_p ..⟩
theorem O.shr (hx : ev ρ x = some ((kInt k).is a)) (hy : ev ρ y = some ((kInt k').is b)) (hb : 0 ≤ b) (h : a.fdiv (2 ^ (min b.toNat k.bits)) = c) : OpOk C ⟨dst, .binOp .shr xt x y yt, ty, pos, after, g⟩ ρ L ((kInt k).is c) L := OpOk.val fun m w f s t =>
  ⟨.int k c, by simp [execOp, t.int hx, t.int hy, eqGuard, binOp, Op.shift, Int.not_lt.2 hb, h], int_p ..⟩
theorem O.or (hx : ev ρ x = some ((kInt k).is a)) (hy : ev ρ y = some ((kInt k).is b)) (h : k.wrap ((BitVec.ofInt k.bits a ||| BitVec.ofInt k.bits b).toNat) = c) : OpOk C ⟨dst, .binOp .or xt x y yt, ty, pos, after, g⟩ ρ L ((kInt k).is c) L := OpOk.val fun m w f s t =>
  ⟨.int k c, by simp only [execOp, t.int hx, t.int hy]; simp only [eqGuard]; simp only [binOp, Op.intBits]; rw [← h]; simp, int_p ..⟩
theorem O.and (hx : ev ρ x = some ((kInt k).is a)) (hy : ev ρ y = some ((kInt k).is b)) (h : k.wrap ((BitVec.ofInt k.bits a &&& BitVec.ofInt k.bits b).toNat) = c) : OpOk C ⟨dst, .binOp .and xt x y yt, ty, pos, after, g⟩ ρ L ((kInt k).is c) L := OpOk.val fun m w f s t =>
  ⟨.int k c, by simp only [execOp, t.int hx, t.int hy]; simp only [eqGuard]; simp only [binOp, Op.intBits]; rw [← h]; simp, int_p ..⟩
theorem O.lt (hx : ev ρ x = some ((kInt k).is a)) (hy : ev ρ y = some ((kInt k).is b)) : OpOk C ⟨dst, .binOp .lss xt x y yt, ty, pos, after, g⟩ ρ L (kBool.is (decide (a < b))) L := OpOk.val fun m w f s t =>
  ⟨.bool (decide (a < b)), by simp [execOp, t.int hx, t.int hy, eqGuard, binOp, Op.intCmp], bool_p ..⟩
theorem O.le (hx : ev ρ x = some ((kInt k).is a)) (hy : ev ρ y = some ((kInt k).is b)) : OpOk C ⟨dst, .binOp .leq xt x y yt, ty, pos, after, g⟩ ρ L (kBool.is (decide (a ≤ b))) L := OpOk.val fun m w f s t =>
  ⟨.bool (decide (a ≤ b)), by simp [execOp, t.int hx, t.int hy, eqGuard, binOp, Op.intCmp], bool_p ..⟩
theorem O.gt (hx : ev ρ x = some ((kInt k).is a)) (hy : ev ρ y = some ((kInt k).is b)) : OpOk C ⟨dst, .binOp .gtr xt x y yt, ty, pos, after, g⟩ ρ L (kBool.is (decide (b < a))) L := OpOk.val fun m w f s t =>
  ⟨.bool (decide (b < a)), by simp [execOp, t.int hx, t.int hy, eqGuard, binOp, Op.intCmp], bool_p ..⟩
theorem O.ge (hx : ev ρ x = some ((kInt k).is a)) (hy : ev ρ y = some ((kInt k).is b)) : OpOk C ⟨dst, .binOp .geq xt x y yt, ty, pos, after, g⟩ ρ L (kBool.is (decide (b ≤ a))) L := OpOk.val fun m w f s t =>
  ⟨.bool (decide (b ≤ a)), by simp [execOp, t.int hx, t.int hy, eqGuard, binOp, Op.intCmp], bool_p ..⟩
theorem O.eq (hx : ev ρ x = some ((kInt k).is a)) (hy : ev ρ y = some ((kInt k).is b)) : OpOk C ⟨dst, .binOp .eql xt x y yt, ty, pos, after, g⟩ ρ L (kBool.is (decide (a = b))) L := OpOk.val fun m w f s t =>
  ⟨.bool (decide (a = b)), by simp only [execOp, t.int hx, t.int hy]; simp [eqGuard, binOp, Op.intCmp]; rfl, bool_p ..⟩
theorem O.ne (hx : ev ρ x = some ((kInt k).is a)) (hy : ev ρ y = some ((kInt k).is b)) : OpOk C ⟨dst, .binOp .neq xt x y yt, ty, pos, after, g⟩ ρ L (kBool.is (decide (a ≠ b))) L := OpOk.val fun m w f s t =>
  ⟨.bool (decide (a ≠ b)), by simp only [execOp, t.int hx, t.int hy]; simp [eqGuard, binOp, Op.intCmp, bne]; rfl, bool_p ..⟩
theorem O.cvt {sT dT : TypeId} (hx : ev ρ x = some ((kInt k).is a)) (hs : C.P.underlying sT = some (.int k)) (hd : C.P.underlying dT = some (.int k')) (h : k'.wrap a = c) : OpOk C ⟨dst, .convert sT dT x, ty, pos, after, g⟩ ρ L ((kInt k').is c) L := OpOk.val fun m w f s t =>
  ⟨.int k' c, by simp [execOp, t.int hx, convert, run_underlying hs, run_underlying hd, Conv.intToInt, h], int_p ..⟩
theorem O.neg (hx : ev ρ x = some ((kInt k).is a)) (h : k.wrap (0 - a) = c) : OpOk C ⟨dst, .unOp .neg xt x, ty, pos, after, g⟩ ρ L ((kInt k).is c) L := OpOk.val fun m w f s t =>
  ⟨.int k c, by simp only [execOp, t.int hx, Op.unary, Op.intArith]; rw [h]; rfl, int_p ..⟩
end ints
theorem run_equalIn_bool {P : Program} {t : TypeId} (hu : P.underlying t = some .bool) (a b : Bool) (w : World) (d : Nat) : (Op.equalIn (d + 1) t (.bool a) (.bool b)).run P w = .ok (a == b) w := by
  simp [Op.equalIn, run_underlying hu]
theorem run_equal_bool {P : Program} {t : TypeId} (hu : P.underlying t = some .bool) (a b : Bool) (w : World) : (Op.equal t (.bool a) (.bool b)).run P w = .ok (a == b) w := run_equalIn_bool hu a b w 9999
section bools
variable {x y : Operand} {xt yt : TypeId} {a b : Bool}
theorem O.not (hx : ev ρ x = some (kBool.is a)) : OpOk C ⟨dst, .unOp .not xt x, ty, pos, after, g⟩ ρ L (kBool.is (!a)) L := OpOk.val fun m w f s t =>
  ⟨.bool (!a), by simp [execOp, t.bool hx, Op.unary], bool_p ..⟩
theorem O.eqB (hx : ev ρ x = some (kBool.is a)) (hy : ev ρ y = some (kBool.is b)) (hu : C.P.underlying xt = some .bool) : OpOk C ⟨dst, .binOp .eql xt x y yt, ty, pos, after, g⟩ ρ L (kBool.is (decide (a = b))) L := OpOk.val fun m w f s t =>
  ⟨.bool (decide (a = b)), by
    have h := run_equal_bool hu a b w
    simp only [execOp, t.bool hx, t.bool hy]; simp only [eqGuard, binOp]; simp [h]; cases a <;> cases b <;> rfl, bool_p ..⟩
theorem O.neB (hx : ev ρ x = some (kBool.is a)) (hy : ev ρ y = some (kBool.is b)) (hu : C.P.underlying xt = some .bool) : OpOk C ⟨dst, .binOp .neq xt x y yt, ty, pos, after, g⟩ ρ L (kBool.is (decide (a ≠ b))) L := OpOk.val fun m w f s t =>
  ⟨.bool (decide (a ≠ b)), by
    have h := run_equal_bool hu a b w
    simp only [execOp, t.bool hx, t.bool hy]; simp only [eqGuard, binOp]; simp [h]; cases a <;> cases b <;> rfl, bool_p ..⟩
end bools

/-! ### Slices that are read -/
theorem Kd.is_sl {α : Type} {k : Kd α} {xs : List α} {m : Mem} {v : Value} (h : ((kSl k).is xs).p m v) : ∃ a cap, v = .slice a xs.length cap ∧ xs.length ≤ 1099511627776 ∧ xs.length ≤ cap ∧ (xs = [] ∨ ∃ g o c cells, a = some ⟨g, o, none⟩ ∧ m g = some c ∧ Sub c o cells ∧ Rows k m cells xs) := by
  obtain ⟨cs, e, a, cap, rfl, h⟩ := h
  exact ⟨a, cap, e, h⟩
theorem O.lenS {α : Type} {k : Kd α} {xs : List α} {x : Operand} {T e : TypeId} (hx : ev ρ x = some ((kSl k).is xs)) (hu : C.P.underlying T = some (.slice e)) : OpOk C ⟨dst, .call ⟨.builtin .len, #[x], #[T]⟩, ty, pos, after, g⟩ ρ L ((kInt .i64).is (xs.length : Int)) L := OpOk.val fun m w f s t => by
  obtain ⟨a, cap, h, _⟩ := Kd.is_sl (t.evl hx)
  refine ⟨_, ?_, int_p ..⟩
  simp [execOp, resolve, invoke, builtin, Builtin.len_, h, run_underlying hu, goInt]
theorem O.lenR {α : Type} {k : Kd α} {xs : List α} {v : Value} {x : Operand} {T e e' : TypeId} (hx : ev ρ x = some (VP.ex v)) (hj : OB.row v e k xs ∈ L) (hu : C.P.underlying T = some (.slice e')) : OpOk C ⟨dst, .call ⟨.builtin .len, #[x], #[T]⟩, ty, pos, after, g⟩ ρ L ((kInt .i64).is (xs.length : Int)) L := OpOk.val fun m w f s t => by
  obtain ⟨⟨cells, h1, h2, h3⟩, _⟩ := s.own _ hj
  refine ⟨_, ?_, int_p ..⟩
  have hv : ∃ a cap, v = .slice a xs.length cap := by
    rcases h1.2 with ⟨rfl, h⟩ | ⟨g, cap, cur, rfl, _⟩
    · exact ⟨none, 0, by rw [h]⟩
    · exact ⟨_, _, rfl⟩
  obtain ⟨a, cap, rfl⟩ := hv
  simp [execOp, resolve, invoke, builtin, Builtin.len_, t.ex hx, run_underlying hu, goInt]
/-- A pointer to something that is read. -/
def VP.pim {α : Type} (k : Kd α) (x : α) : VP := ⟨fun m v => ∃ g o c cells, v = .pointer (some ⟨g, o, none⟩) ∧ m g = some c ∧ Sub c o cells ∧ k.at' m cells x, by
  rintro m m' v hm ⟨g, o, c, cells, e1, e2, e3, e4⟩
  obtain ⟨r, hr⟩ := hm g c e2
  exact ⟨g, o, _, cells, e1, hr, e3.grow r, k.mono hm e4⟩⟩
theorem info_of_ty {P : Program} {e : TypeId} {agg : Bool} {sz : Nat} (h : TyOk P e agg sz) : ∃ i, P.info? e = some i ∧ i.size = sz := by
  obtain ⟨d, _, _, h3⟩ := h
  cases hi : P.info? e with
  | none => simp [hi] at h3
  | some i => exact ⟨i, rfl, by simpa [hi] using h3⟩
theorem run_indexAt {P : Program} {T e : TypeId} {agg : Bool} {sz : Nat} (hu : P.underlying T = some (.slice e)) (ht : TyOk P e agg sz) (w : World) (ki : IntKind) (i : Nat) (n cap : Nat) (hlt : i < n) (g o : Nat) : (Instr.indexAt T (.slice (some ⟨g, o, none⟩) n cap) (.int ki (i : Int))).run P w = .ok (.pointer (some ⟨g, o + i * sz, none⟩)) w := by
  have hs := run_sizeOf ht w
  have h1 : (0 : Int) ≤ (i : Int) ∧ (i : Int) < (n : Int) := by omega
  simp [Instr.indexAt, asIntOf, run_underlying hu, hlt, hs, Addr.add_lit]
theorem O.ix {α : Type} {k : Kd α} {xs : List α} {v : α} {x y : Operand} {ki : IntKind} {n : Int} {T e : TypeId} {agg : Bool} (i : Nat) (hx : ev ρ x = some ((kSl k).is xs)) (hy : ev ρ y = some ((kInt ki).is n)) (hu : C.P.underlying T = some (.slice e)) (ht : TyOk C.P e agg k.sz) (hn : n = i) (hv : xs[i]? = some v) : OpOk C ⟨dst, .indexAddr T x y, ty, pos, after, g⟩ ρ L (VP.pim k v) L := OpOk.val fun m w f s t => by
  subst hn
  obtain ⟨a, cap, h, h1, h2, h3⟩ := Kd.is_sl (t.evl hx)
  obtain ⟨hlt, hget⟩ := List.getElem?_eq_some_iff.1 hv
  rcases h3 with rfl | ⟨g, o, c, cells, rfl, e2, e3, e4⟩
  · simp at hlt
  · refine ⟨_, ?_, g, o + i * k.sz, c, _, rfl, e2, e3.sub (i * k.sz) k.sz ?_, hget ▸ e4.get i hlt⟩
    · simp only [execOp, h, t.int hy, Sem.run_bind, run_indexAt hu ht w ki i _ cap hlt g o, Result.andThen_ok]; rfl
    · rw [e4.len]
      calc i * k.sz + k.sz = (i + 1) * k.sz := by rw [Nat.succ_mul]
        _ ≤ _ := Nat.mul_le_mul_right _ hlt
theorem Sub.cells {c : List Value} {o : Nat} {cells : List Value} {m : Mem} {w : World} {g : Nat} (h : Sub c o cells) (hf : Fits m w) (hg : m g = some c) : ∀ j v, cells[j]? = some v → w.cell? ⟨g, o + j, none⟩ = some v := fun j v hj => hf.cell hg (h.get j v hj)
theorem O.ldP {α : Type} {k : Kd α} {v : α} {x : Operand} {T : TypeId} (hx : ev ρ x = some (VP.pim k v)) (ht : TyOk C.P T k.agg k.sz) : OpOk C ⟨dst, .load T x, ty, pos, after, g⟩ ρ L (k.is v) L := OpOk.val fun m w f s t => by
  obtain ⟨g, o, c, cells, e1, e2, e3, e4⟩ := t.evl hx
  refine ⟨k.val cells, ?_, cells, rfl, e4⟩
  have := run_loadVar (P := C.P) ht w g o e4 (e3.cells s.fits e2)
  simp [execOp, Instr.loadAt, e1, Instr.sureAddr, this]
theorem limb_le (n : Nat) : VP.le (kLimb.is n) ((kInt .u32).is (n : Int)) := by
  rintro m v ⟨cs, e, rfl, h⟩
  exact ⟨_, e, rfl⟩
theorem i64_le (n : Int) : VP.le (kI64.is n) ((kInt .i64).is n) := by
  rintro m v ⟨cs, e, rfl, h⟩
  exact ⟨_, e, rfl⟩
/-- A part of a kind. -/
structure Lens {α β : Type} (k : Kd α) (o : Nat) (l : Kd β) (get : α → β) (set : β → α → α) : Prop where
  fit : o + l.sz ≤ k.sz
  get : ∀ {m : Mem} {cs : List Value} {x : α}, k.at' m cs x → l.at' m ((cs.drop o).take l.sz) (get x)
  set : ∀ {m : Mem} {cs c : List Value} {x : α} {y : β}, k.at' m cs x → l.at' m c y → k.at' m (cs.take o ++ c ++ cs.drop (o + l.sz)) (set y x)
theorem Lens.id {α : Type} (k : Kd α) : Lens k 0 k (fun x => x) (fun y _ => y) :=
  ⟨by omega, fun h => by have := k.len h; rw [List.drop_zero, ← this, List.take_length]; exact h, fun h h' => by have := k.len h; rw [Nat.zero_add, ← this]; simpa using h'⟩
theorem Lens.fst {α β γ : Type} {k : Kd α} {k2 : Kd γ} {o : Nat} {l : Kd β} {gt : α → β} {st : β → α → α} (h : Lens k o l gt st) : Lens (kPair k k2) o l (fun x => gt x.1) (fun y x => (st y x.1, x.2)) where
  fit := by have := h.fit; simp [kPair]; omega
  get := by
    rintro m cs x ⟨a, b, rfl, h1, h2⟩
    have hl := k.len h1
    have := h.fit
    have := h.get h1
    rw [List.drop_append_of_le_length (by omega), List.take_append_of_le_length (by simp; omega)]
    exact this
  set := by
    rintro m cs c x y ⟨a, b, rfl, h1, h2⟩ hy
    have hl := k.len h1
    have := h.fit
    refine ⟨_, b, ?_, h.set h1 hy, h2⟩
    rw [List.take_append_of_le_length (by omega), List.drop_append_of_le_length (by omega)]
    simp
theorem Lens.snd {α β γ : Type} {k : Kd α} {k2 : Kd γ} {o : Nat} {l : Kd β} {gt : γ → β} {st : β → γ → γ} (h : Lens k2 o l gt st) : Lens (kPair k k2) (k.sz + o) l (fun x => gt x.2) (fun y x => (x.1, st y x.2)) where
  fit := by have := h.fit; simp [kPair]; omega
  get := by
    rintro m cs x ⟨a, b, rfl, h1, h2⟩
    have hl := k.len h1
    have := h.get h2
    rw [← hl, List.drop_length_add_append]
    exact this
  set := by
    rintro m cs c x y ⟨a, b, rfl, h1, h2⟩ hy
    have hl := k.len h1
    refine ⟨a, _, ?_, h1, h.set h2 hy⟩
    rw [← hl, List.take_length_add_append, Nat.add_assoc, List.drop_length_add_append]
    simp
theorem Lens.arr {α β : Type} {k : Kd α} {n o : Nat} {l : Kd β} {gt : α → β} {st : β → α → α} (d : α) (i : Nat) (hi : i < n) (h : Lens k o l gt st) : Lens (kArr n k) (i * k.sz + o) l (fun xs => gt (xs.getD i d)) (fun y xs => xs.set i (st y (xs.getD i d))) where
  fit := by
    have := h.fit
    have : (i + 1) * k.sz ≤ n * k.sz := Nat.mul_le_mul_right _ hi
    rw [Nat.succ_mul] at this
    simp [kArr]; omega
  get := by
    rintro m cs xs ⟨rfl, r⟩
    have h1 := r.get i hi
    have h2 := h.get h1
    have := h.fit
    have e : xs.getD i d = xs[i] := by simp [List.getD, List.getElem?_eq_getElem hi]
    simp only [e]
    rw [List.drop_take, List.take_take, List.drop_drop, Nat.min_eq_left (by omega)] at h2
    exact h2
  set := by
    rintro m cs c xs y ⟨rfl, r⟩ hy
    have h1 := r.get i hi
    have h2 := h.set h1 hy
    have := h.fit
    have e : xs.getD i d = xs[i] := by simp [List.getD, List.getElem?_eq_getElem hi]
    simp only [e]
    refine ⟨by simp, ?_⟩
    have h3 := r.set i hi h2
    have hle : i * k.sz + k.sz ≤ cs.length := by
      rw [r.len, ← Nat.succ_mul]
      exact Nat.mul_le_mul_right _ hi
    have e2 : cs.take (i * k.sz + o) ++ c ++ cs.drop (i * k.sz + o + l.sz) = cs.take (i * k.sz) ++ (((cs.drop (i * k.sz)).take k.sz).take o ++ c ++ ((cs.drop (i * k.sz)).take k.sz).drop (o + l.sz)) ++ cs.drop (i * k.sz + k.sz) := by
      rw [List.take_take, Nat.min_eq_left (by omega), List.drop_take, List.drop_drop, List.take_add]
      simp only [List.append_assoc]
      congr 3
      have : cs.drop (i * k.sz + k.sz) = ((cs.drop (i * k.sz + (o + l.sz))).drop (k.sz - (o + l.sz))) := by
        rw [List.drop_drop]; congr 1; omega
      rw [this, List.take_append_drop, Nat.add_assoc]
    rw [e2]
    exact h3

/-! ### Variables in memory -/
/-- The zero value of a type reads as z. -/
def ZeroOk {α : Type} (P : Program) (e : TypeId) (k : Kd α) (z : α) : Prop := ∃ i v, P.info? e = some i ∧ i.zero = some v ∧ ∀ m, k.at' m v.cells.toList z
theorem alloc_box {α : Type} {k : Kd α} {x : α} {e : TypeId} {cs : List Value} {m : Mem} {w : World} (s : Sat C m w L) (hk : k.at' m cs x) : Sat C m (w.alloc (.cells cs.toArray e)) (OB.box w.heap.size e k x :: L) := by
  have hgrow : Grow [] w (w.alloc (.cells cs.toArray e)) := ⟨rfl, rfl, rfl, by simp, fun i hi _ => RowKit.Below.heap_alloc w _ i hi⟩
  refine s.new hgrow (OB.box w.heap.size e k x) ⟨cs.toArray, heap_alloc_new w _, by simpa using hk⟩ ?_
  intro i hi
  simp [OB.box] at hi
  subst hi
  simp
/-- A new variable, zero. -/
theorem WP.al {α : Type} {k : Kd α} {z : α} {d : Tmp} {e : TypeId} (hr : Run ops ρ ⟨some d, .alloc e, ty, pos, after, g⟩) (hz : ZeroOk C.P e k z) (h : ∀ b, WP C ops Q rest ((d, VP.ex (.pointer (some ⟨b, 0, none⟩))) :: ρ) (OB.box b e k z :: L)) (hd : Nat.blt d C.N = true := by rfl) :
    WP C ops Q (⟨some d, .alloc e, ty, pos, after, g⟩ :: rest) ρ L := fun m w a s t => by
  obtain ⟨i, v, h1, h2, h3⟩ := hz
  unfold wpList
  rw [if_pos (hr _ m a t)]
  refine .inl ?_
  have hrun : (execOp a.eval ⟨some d, .alloc e, ty, pos, after, g⟩).run C.P w = .ok (.value (.pointer (some ⟨w.heap.size, 0, none⟩))) (w.alloc (.cells v.cells.toList.toArray e)) := by
    simp [execOp, Instr.alloc, zeroValue, typeInfo, h1, h2, newVar, newRow]
  unfold Oper.wp
  rw [hrun]
  exact h w.heap.size m _ _ (alloc_box s (h3 m)) (t.put rfl hd)
/-- A new variable with a value. -/
theorem WP.bx {α : Type} {k : Kd α} {v : α} {x : Operand} {d : Tmp} {e : TypeId} (hr : Run ops ρ ⟨some d, .box e x, ty, pos, after, g⟩) (hx : ev ρ x = some (k.is v)) (h : ∀ b, WP C ops Q rest ((d, VP.ex (.pointer (some ⟨b, 0, none⟩))) :: ρ) (OB.box b e k v :: L)) (hd : Nat.blt d C.N = true := by rfl) :
    WP C ops Q (⟨some d, .box e x, ty, pos, after, g⟩ :: rest) ρ L := fun m w a s t => by
  obtain ⟨cs, h1, h2⟩ := t.evl hx
  unfold wpList
  rw [if_pos (hr _ m a t)]
  refine .inl ?_
  have hrun : (execOp a.eval ⟨some d, .box e x, ty, pos, after, g⟩).run C.P w = .ok (.value (.pointer (some ⟨w.heap.size, 0, none⟩))) (w.alloc (.cells cs.toArray e)) := by
    simp [execOp, Instr.box, h1, k.cells_val h2, newVar, newRow]
  unfold Oper.wp
  rw [hrun]
  exact h w.heap.size m _ _ (alloc_box s h2) (t.put rfl hd)
/-- A field's place. -/
def FldOk (P : Program) (T : TypeId) (f off : Nat) : Prop := ∃ fields fd n, P.underlying T = some (.struct fields) ∧ fields[f]? = some fd ∧ fd.offset = off ∧ (P.info? fd.type).map (·.size) = some (n + 1)
theorem run_fieldAt {P : Program} {T : TypeId} {f off : Nat} (h : FldOk P T f off) (w : World) (g o : Nat) : (Instr.fieldAt T (.pointer (some ⟨g, o, none⟩)) f).run P w = .ok (.pointer (some ⟨g, o + off, none⟩)) w := by
  obtain ⟨fields, fd, n, h1, h2, h3, h4⟩ := h
  cases hi : P.info? fd.type with
  | none => simp [hi] at h4
  | some i =>
    have h5 : i.size = n + 1 := by simpa [hi] using h4
    simp [Instr.fieldAt, run_underlying h1, h2, Instr.sureAddr, fieldPlace, Go.sizeOf, typeInfo, hi, h5, h3, Addr.add_lit]
theorem O.fa {x : Operand} {T : TypeId} {f b o off o' : Nat} (hx : ev ρ x = some (VP.ex (.pointer (some ⟨b, o, none⟩)))) (hf : FldOk C.P T f off) (ho : o + off = o') : OpOk C ⟨dst, .fieldAddr T x f, ty, pos, after, g⟩ ρ L (VP.ex (.pointer (some ⟨b, o', none⟩))) L := ho ▸ OpOk.val fun m w a s t =>
  ⟨_, by simp only [execOp, t.ex hx, Sem.run_bind, run_fieldAt hf w b o, Result.andThen_ok]; rfl, rfl⟩
theorem O.faP {α β : Type} {k : Kd α} {l : Kd β} {v : α} {gt : α → β} {st : β → α → α} {x : Operand} {T : TypeId} {f off : Nat} (hx : ev ρ x = some (VP.pim k v)) (hf : FldOk C.P T f off) {p : VP} (ln : Lens k off l gt st) (hp : VP.pim l (gt v) = p) : OpOk C ⟨dst, .fieldAddr T x f, ty, pos, after, g⟩ ρ L p L := hp ▸ OpOk.val fun m w a s t => by
  obtain ⟨g, o, c, cells, e1, e2, e3, e4⟩ := t.evl hx
  refine ⟨_, ?_, g, o + off, c, _, rfl, e2, e3.sub off l.sz (by rw [k.len e4]; exact ln.fit), ln.get e4⟩
  simp only [execOp, e1, Sem.run_bind, run_fieldAt hf w g o, Result.andThen_ok]; rfl
theorem box_cells {α : Type} {k : Kd α} {v : α} {e : TypeId} {b : Nat} {m : Mem} {w : World} (s : Sat C m w L) (hj : OB.box b e k v ∈ L) : ∃ A : Array Value, w.heap[b]? = some (.cells A e (0, 0)) ∧ k.at' m A.toList v := (s.own _ hj).1
/-- A load out of a variable. -/
theorem O.ld {α β : Type} {k : Kd α} {l : Kd β} {v : α} {gt : α → β} {st : β → α → α} {x : Operand} {T e : TypeId} {b o : Nat} (hx : ev ρ x = some (VP.ex (.pointer (some ⟨b, o, none⟩)))) (hj : OB.box b e k v ∈ L) {p : VP} (ln : Lens k o l gt st) (ht : TyOk C.P T l.agg l.sz) (hp : l.is (gt v) = p) : OpOk C ⟨dst, .load T x, ty, pos, after, g⟩ ρ L p L := hp ▸ OpOk.val fun m w a s t => by
  obtain ⟨A, hA, hk⟩ := box_cells s hj
  have hg := ln.get hk
  refine ⟨_, ?_, _, rfl, hg⟩
  have hlen := l.len hg
  have := run_loadVar (P := C.P) ht w b o hg (fun i u hi => by
    have hlt := (List.getElem?_eq_some_iff.1 hi).1
    rw [List.getElem?_take_of_lt (by omega), List.getElem?_drop] at hi
    simpa [World.cell?, hA] using hi)
  simp [execOp, Instr.loadAt, t.ex hx, Instr.sureAddr, this]
theorem set_box {α β : Type} {k : Kd α} {k' : Kd β} {v : α} {v' : β} {e : TypeId} {b : Nat} {j : Nat} {m : Mem} {w : World} {A : Array Value} {cs : List Value} (s : Sat C m w L) (hj : L[j]? = some (OB.box b e k v)) (hA : w.heap[b]? = some (.cells A e (0, 0))) (hk : k'.at' m cs v') : Sat C m (w.setRow b cs.toArray) (L.set j (OB.box b e k' v')) :=
  s.turn j _ _ hj ⟨rfl, rfl, rfl, by simp, fun i hi hx => setRow_other w b i _ (fun h => hx (by simp [OB.box, h]))⟩ ⟨_, setRow_heap w b A _ e _ hA, by simpa using hk⟩ (fun i hi => .inl hi)
/-- A store into a variable. -/
theorem O.st {α β : Type} {k : Kd α} {l : Kd β} {v : α} {u : β} {gt : α → β} {st : β → α → α} {x y : Operand} {T e : TypeId} {agg : Bool} {b o : Nat} {q : VP} (j : Nat) (hx : ev ρ x = some (VP.ex (.pointer (some ⟨b, o, none⟩)))) (hj : L[j]? = some (OB.box b e k v)) (ln : Lens k o l gt st) (ht : TyOk C.P T agg l.sz) (hy : ev ρ y = some q) (hq : VP.le q (l.is u)) : OpOk C ⟨dst, .store T x y, ty, pos, after, g⟩ ρ L VP.tt (L.set j (OB.box b e k (st u v))) := OpOk.skipW fun m w a s t => by
  obtain ⟨A, hA, hk⟩ := box_cells s (List.mem_of_getElem? hj)
  obtain ⟨cs, h1, h2⟩ := hq _ _ (t.evl hy)
  have hfit := ln.fit
  have hl := k.len hk
  have hsz : A.size = k.sz := by simpa using hl
  have hst := run_storeVar (P := C.P) ht w b o e A hA h2 (by omega)
  refine ⟨_, ?_, set_box s hj hA (ln.set hk h2)⟩
  simp [execOp, Instr.storeAt, t.ex hx, h1, Instr.sureAddr, hst]
/-- A store of a whole variable: it may be of another kind. -/
theorem O.stW {α β : Type} {k : Kd α} {l : Kd β} {v : α} {u : β} {x y : Operand} {T e : TypeId} {agg : Bool} {b : Nat} {q : VP} (j : Nat) (hx : ev ρ x = some (VP.ex (.pointer (some ⟨b, 0, none⟩)))) (hj : L[j]? = some (OB.box b e k v)) (hs : k.sz = l.sz) (ht : TyOk C.P T agg l.sz) (hy : ev ρ y = some q) (hq : VP.le q (l.is u)) : OpOk C ⟨dst, .store T x y, ty, pos, after, g⟩ ρ L VP.tt (L.set j (OB.box b e l u)) := OpOk.skipW fun m w a s t => by
  obtain ⟨A, hA, hk⟩ := box_cells s (List.mem_of_getElem? hj)
  obtain ⟨cs, h1, h2⟩ := hq _ _ (t.evl hy)
  have hl := k.len hk
  have hl2 := l.len h2
  have hsz : A.size = k.sz := by simpa using hl
  have hst := run_storeVar (P := C.P) ht w b 0 e A hA h2 (by omega)
  have hd : A.toList.drop l.sz = [] := List.drop_of_length_le (by simp; omega)
  simp only [List.take_zero, List.nil_append, Nat.zero_add, hd, List.append_nil] at hst
  refine ⟨_, ?_, set_box s hj hA h2⟩
  simp [execOp, Instr.storeAt, t.ex hx, h1, Instr.sureAddr, hst]
theorem mem_at {α : Type} {l : List α} {x : α} (j : Nat) (h : l[j]? = some x) : x ∈ l := List.mem_of_getElem? h
theorem mem_app {α : Type} {l : List α} {x : α} (n : List α) (h : x ∈ l) : x ∈ n ++ l := List.mem_append.2 (.inr h)
/-- int arithmetic that stays within an int. -/
theorem w64 {n c : Int} (h : n = c ∧ -9223372036854775808 ≤ c ∧ c ≤ 9223372036854775807) : IntKind.i64.wrap n = c := by
  rw [IntKind.wrap_i64]; omega
theorem wu64 {n c : Int} (h : n = c ∧ 0 ≤ c ∧ c ≤ 18446744073709551615) : IntKind.u64.wrap n = c := by
  obtain ⟨rfl, h1, h2⟩ := h
  simp [IntKind.wrap, IntKind.signed, IntKind.bits]
  omega
theorem wu32 {n c : Int} (h : n = c ∧ 0 ≤ c ∧ c ≤ 4294967295) : IntKind.u32.wrap n = c := by
  obtain ⟨rfl, h1, h2⟩ := h
  simp [IntKind.wrap, IntKind.signed, IntKind.bits]
  omega
theorem is_eq {α : Type} {k : Kd α} {x y : α} (h : x = y) : VP.le (k.is x) (k.is y) := by subst h; exact VP.le_refl _
theorem sl_len {α : Type} {k : Kd α} {xs : List α} (m : Mem) (v : Value) (h : ((kSl k).is xs).p m v) : xs.length ≤ 1099511627776 := by
  obtain ⟨_, _, _, h, _⟩ := Kd.is_sl h
  exact h
end
end Fw
