/- The frame of the walks: places of arrays. -/
import Derived.Test.YtgbafijcklgajaaFwM
set_option linter.unusedVariables false
set_option linter.unusedSimpArgs false
namespace Fw
open Go

section
variable {C : Ctx} {ρ : Env} {L : List OB} {dst : Option Tmp} {ty : TypeId} {pos : String} {after : Array Edge} {g : Option (Nat × Bool)}
/-- A place of an array in a variable. -/
theorem O.ixA {x y : Operand} {ki : IntKind} {n' : Int} {T e : TypeId} {agg : Bool} {b o o' n sz : Nat} (i : Nat) (hx : ev ρ x = some (VP.ex (.pointer (some ⟨b, o, none⟩)))) (hy : ev ρ y = some ((kInt ki).is n')) (hu : C.P.underlying T = some (.array n e)) (ht : TyOk C.P e agg sz) (hn : n' = i) (hlt : i < n) (ho : o + i * sz = o') : OpOk C ⟨dst, .indexAddr T x y, ty, pos, after, g⟩ ρ L (VP.ex (.pointer (some ⟨b, o', none⟩))) L := ho ▸ OpOk.val fun m w a s t => by
  subst hn
  refine ⟨_, ?_, rfl⟩
  have hs := run_sizeOf ht w
  have h1 : (0 : Int) ≤ (i : Int) ∧ (i : Int) < (n : Int) := by omega
  simp [execOp, Instr.indexAt, asIntOf, run_underlying hu, hlt, hs, Addr.add_lit, t.ex hx, t.int hy, Instr.sureAddr]
/-- A place of an array. -/
theorem O.ixV {α : Type} {k : Kd α} {xs : List α} {x y : Operand} {ki : IntKind} {n' : Int} {T e : TypeId} {n : Nat} (i : Nat) (d : α) (hx : ev ρ x = some ((kArr n k).is xs)) (hy : ev ρ y = some ((kInt ki).is n')) (hu : C.P.underlying T = some (.array n e)) (ht : TyOk C.P e k.agg k.sz) (hn : n' = i) (hlt : i < n) : OpOk C ⟨dst, .index T x y, ty, pos, after, g⟩ ρ L (k.is (xs.getD i d)) L := OpOk.val fun m w a s t => by
  subst hn
  obtain ⟨cs, e1, hl, e2⟩ := t.evl hx
  have hg := e2.get i (by omega)
  have hd : xs.getD i d = xs[i]'(by omega) := by simp [List.getD, List.getElem?_eq_getElem (show i < xs.length by omega)]
  rw [hd]
  refine ⟨_, ?_, _, rfl, hg⟩
  have hv : a.eval x = .agg cs.toArray := by rw [e1]; simp [Kd.val, kArr]
  have hs := run_sizeOf ht w
  have h1 : (0 : Int) ≤ (i : Int) ∧ (i : Int) < (n : Int) := by omega
  have := run_part (P := C.P) ht (A := cs.toArray) (off := i * k.sz) (by simpa using hg) w
  simp only [List.toList_toArray] at this
  simp [execOp, Instr.index, asIntOf, run_underlying hu, hlt, hs, hv, t.int hy, this]
end

section
variable {C : Ctx} {Q : Exit → Act → World → Prop} {ρ : Env} {L L' : List OB} {ops : Array Oper} {dst : Option Tmp} {ty : TypeId} {pos : String} {after : Array Edge} {g : Option (Nat × Bool)}
theorem OV.asg {x : Operand} {p : VP} (e : ev ρ x = some p) : OV C ⟨dst, .assign x, ty, pos, after, g⟩ ρ p := fun m a t => ⟨_, fun w => rfl, t.evl e⟩
section
variable {x y : Operand} {xt yt : TypeId} {k k' : IntKind} {a b c : Int}
theorem OV.lt (hx : ev ρ x = some ((kInt k).is a)) (hy : ev ρ y = some ((kInt k).is b)) : OV C ⟨dst, .binOp .lss xt x y yt, ty, pos, after, g⟩ ρ (kBool.is (decide (a < b))) := fun m f t =>
  ⟨.bool (decide (a < b)), fun w => by simp [execOp, t.int hx, t.int hy, eqGuard, binOp, Op.intCmp], bool_p ..⟩
theorem OV.le (hx : ev ρ x = some ((kInt k).is a)) (hy : ev ρ y = some ((kInt k).is b)) : OV C ⟨dst, .binOp .leq xt x y yt, ty, pos, after, g⟩ ρ (kBool.is (decide (a ≤ b))) := fun m f t =>
  ⟨.bool (decide (a ≤ b)), fun w => by simp [execOp, t.int hx, t.int hy, eqGuard, binOp, Op.intCmp], bool_p ..⟩
theorem OV.gt (hx : ev ρ x = some ((kInt k).is a)) (hy : ev ρ y = some ((kInt k).is b)) : OV C ⟨dst, .binOp .gtr xt x y yt, ty, pos, after, g⟩ ρ (kBool.is (decide (b < a))) := fun m f t =>
  ⟨.bool (decide (b < a)), fun w => by simp [execOp, t.int hx, t.int hy, eqGuard, binOp, Op.intCmp], bool_p ..⟩
theorem OV.ge (hx : ev ρ x = some ((kInt k).is a)) (hy : ev ρ y = some ((kInt k).is b)) : OV C ⟨dst, .binOp .geq xt x y yt, ty, pos, after, g⟩ ρ (kBool.is (decide (b ≤ a))) := fun m f t =>
  ⟨.bool (decide (b ≤ a)), fun w => by simp [execOp, t.int hx, t.int hy, eqGuard, binOp, Op.intCmp], bool_p ..⟩
theorem OV.eq (hx : ev ρ x = some ((kInt k).is a)) (hy : ev ρ y = some ((kInt k).is b)) : OV C ⟨dst, .binOp .eql xt x y yt, ty, pos, after, g⟩ ρ (kBool.is (decide (a = b))) := fun m f t =>
  ⟨.bool (decide (a = b)), fun w => by simp only [execOp, t.int hx, t.int hy]; simp [eqGuard, binOp, Op.intCmp]; rfl, bool_p ..⟩
theorem OV.ne (hx : ev ρ x = some ((kInt k).is a)) (hy : ev ρ y = some ((kInt k).is b)) : OV C ⟨dst, .binOp .neq xt x y yt, ty, pos, after, g⟩ ρ (kBool.is (decide (a ≠ b))) := fun m f t =>
  ⟨.bool (decide (a ≠ b)), fun w => by simp only [execOp, t.int hx, t.int hy]; simp [eqGuard, binOp, Op.intCmp, bne]; rfl, bool_p ..⟩
theorem OV.add (hx : ev ρ x = some ((kInt k).is a)) (hy : ev ρ y = some ((kInt k).is b)) (h : k.wrap (a + b) = c) : OV C ⟨dst, .binOp .add xt x y yt, ty, pos, after, g⟩ ρ ((kInt k).is c) := fun m f t =>
  ⟨.int k c, fun w => by simp [execOp, t.int hx, t.int hy, eqGuard, binOp, Op.intArith, h], int_p ..⟩
theorem OV.sub (hx : ev ρ x = some ((kInt k).is a)) (hy : ev ρ y = some ((kInt k).is b)) (h : k.wrap (a - b) = c) : OV C ⟨dst, .binOp .sub xt x y yt, ty, pos, after, g⟩ ρ ((kInt k).is c) := fun m f t =>
  ⟨.int k c, fun w => by simp [execOp, t.int hx, t.int hy, eqGuard, binOp, Op.intArith, h], int_p ..⟩
theorem OV.mul (hx : ev ρ x = some ((kInt k).is a)) (hy : ev ρ y = some ((kInt k).is b)) (h : k.wrap (a * b) = c) : OV C ⟨dst, .binOp .mul xt x y yt, ty, pos, after, g⟩ ρ ((kInt k).is c) := fun m f t =>
  ⟨.int k c, fun w => by simp [execOp, t.int hx, t.int hy, eqGuard, binOp, Op.intArith, h], int_p ..⟩
end
theorem OV.not {x : Operand} {xt : TypeId} {a : Bool} (hx : ev ρ x = some (kBool.is a)) : OV C ⟨dst, .unOp .not xt x, ty, pos, after, g⟩ ρ (kBool.is (!a)) := fun m f t =>
  ⟨.bool (!a), fun w => by simp [execOp, t.bool hx, Op.unary], bool_p ..⟩
theorem OV.imp {o : Oper} {p q : VP} (h : OV C o ρ p) (hl : VP.le p q) : OV C o ρ q := fun m a t => by
  obtain ⟨v, h1, h2⟩ := h m a t
  exact ⟨v, h1, hl _ _ h2⟩

/-! ### Orders: what looks at no memory is done at once -/
theorem DA.first {fuel : Nat} {listed : Array Bool} (i : Nat) {d : Tmp} {op : Op} {p : VP} (hi : ops[i]? = some ⟨some d, op, ty, pos, after, g⟩) (sel : Region.noSelect ops = true) (fr : Region.free .any ops listed i = true) (rd : (Region.ready .any ops listed).contains i = true)
    (hQ : ∀ c (a : Act) d v w, Q (.panic c) (a.put (some d) v) w → Q (.panic c) a w) (hr : Run ops ρ ⟨some d, op, ty, pos, after, g⟩) (ho : OV C ⟨some d, op, ty, pos, after, g⟩ ρ p) (h : DA C ops Q fuel (listed.setIfInBounds i true) ((d, p) :: ρ) L) (hd : Nat.blt d C.N = true := by rfl) : DA C ops Q (fuel + 1) listed ρ L := fun m w a s t => by
  obtain ⟨v, h1, h2⟩ := ho m a t
  refine wpAny_first (v := v) hi (Region.noSelect_spec sel) (fun c a w => hQ c a _ v w) fuel listed a w (fun j oj hj hji hjn hno => Region.free_spec hi fr j oj hj hji hjn hno) (by simpa using rd) (.inl ⟨hr _ m a t, h1⟩) (h m w _ s (t.put h2 hd))
def Kx (K : Act → World → Prop) (Q : Exit → Act → World → Prop) : Exit → Act → World → Prop
  | .normal => K
  | e => Q e
theorem Kx_upon (P : Program) (o : Oper) (a : Act) (next K : Act → World → Prop) (Q : Exit → Act → World → Prop) (r : Result Next) : o.upon P a next (Kx K Q) r = o.upon P a next Q r := by
  unfold Oper.upon
  rfl
/-- One operation of an order, by a law of the text's order. -/
theorem DO.w {fuel j : Nat} {listed : Array Bool} {o : Oper} (hi : ops[j]? = some o) (h : WP C ops (Kx (wpAny C.P .any ops Q fuel (listed.setIfInBounds j true)) Q) [o] ρ L) : DO C ops Q fuel listed j ρ L := fun m w a s t => by
  have h1 := h m w a s t
  unfold wpList at h1
  unfold wpOp
  simp only [hi]
  split at h1
  · rename_i hw
    rw [if_pos hw]
    refine h1.imp (fun h2 => ?_) (fun h2 => h2)
    unfold Oper.wp at h2 ⊢
    rw [Kx_upon] at h2
    exact Oper.wp_mono (fun a w h => h) h2
  · rename_i hw
    rw [if_neg hw]
    exact h1
theorem DO.nx {fuel j : Nat} {listed : Array Bool} (h : DA C ops Q fuel (listed.setIfInBounds j true) ρ L) : QE C (Kx (wpAny C.P .any ops Q fuel (listed.setIfInBounds j true)) Q) .normal ρ L := h
end
theorem OB.C_Zeq {g : Nat} {e : TypeId} {z z' : Int} (h : Sm z) (hz : z = z') : OB.le (OB.box g e kC z) (OB.box g e kZ z') := by subst hz; exact OB.C_Z h
end Fw
