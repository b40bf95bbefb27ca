/- The frame of the walks: immutable memory, kinds of data, owned blocks, and what holds of a frame's slots. -/
import Derived.WalkKit
import Derived.OwnWalk
import Derived.Laws.OwnMore
import Derived.Laws.IdiomCopy
import Derived.KernelRfl
set_option linter.unusedVariables false
namespace Fw
open Go

/-- What is known, once for all, of the beginnings of some blocks. -/
abbrev Mem := Nat → Option (List Value)
def Mem.le (m m' : Mem) : Prop := ∀ g c, m g = some c → ∃ r, m' g = some (c ++ r)
theorem Mem.le_refl (m : Mem) : Mem.le m m := fun g c h => ⟨[], by simpa using h⟩
theorem Mem.le_trans {a b c : Mem} (h : Mem.le a b) (k : Mem.le b c) : Mem.le a c := fun g x hx => by
  obtain ⟨r, hr⟩ := h g x hx
  obtain ⟨s, hs⟩ := k g _ hr
  exact ⟨r ++ s, by simpa using hs⟩

structure VP where
  p : Mem → Value → Prop
  mono : ∀ {m m' : Mem} {v : Value}, Mem.le m m' → p m v → p m' v

/-- A kind of data: how many cells, whether the value is an aggregate, and when cells read as a datum. -/
structure Kd (α : Type) where
  sz : Nat
  agg : Bool
  at' : Mem → List Value → α → Prop
  len : ∀ {m : Mem} {cs : List Value} {x : α}, at' m cs x → cs.length = sz
  mono : ∀ {m m' : Mem} {cs : List Value} {x : α}, Mem.le m m' → at' m cs x → at' m' cs x
  flat : ∀ {m : Mem} {cs : List Value} {x : α}, at' m cs x → ∀ c ∈ cs, c.oneCell' = true
  one : agg = false → sz = 1

def Kd.val {α : Type} (k : Kd α) (cs : List Value) : Value := match k.agg with
  | true => .agg cs.toArray
  | false => cs.headD undef

def Kd.is {α : Type} (k : Kd α) (x : α) : VP := ⟨fun m v => ∃ cs, v = k.val cs ∧ k.at' m cs x, fun hm ⟨cs, e, h⟩ => ⟨cs, e, k.mono hm h⟩⟩
def VP.ex (v : Value) : VP := ⟨fun _ u => u = v, fun _ h => h⟩

theorem Kd.cells_val {α : Type} (k : Kd α) {m : Mem} {cs : List Value} {x : α} (h : k.at' m cs x) : (k.val cs).cells = cs.toArray := by
  have hl := k.len h
  have hf := k.flat h
  have h1 := k.one
  unfold Kd.val
  cases hk : k.agg with
  | true => simp [Value.cells]
  | false =>
    have h2 := h1 hk
    match cs, hl with
    | [c], _ =>
      have := hf c (by simp)
      cases c <;> simp_all [Value.cells, Value.oneCell']
    | [], hl => simp at hl; omega
    | a :: b :: r, hl => simp at hl; omega

/-- Cells that read as a list, element by element. -/
def Rows {α : Type} (k : Kd α) (m : Mem) : List Value → List α → Prop
  | cells, [] => cells = []
  | cells, x :: xs => ∃ a b, cells = a ++ b ∧ k.at' m a x ∧ Rows k m b xs
theorem Rows.mono {α : Type} {k : Kd α} {m m' : Mem} (hm : Mem.le m m') : ∀ {xs : List α} {cells : List Value}, Rows k m cells xs → Rows k m' cells xs
  | [], _, h => h
  | _ :: _, _, ⟨a, b, e, h, r⟩ => ⟨a, b, e, k.mono hm h, Rows.mono hm r⟩
theorem Rows.len {α : Type} {k : Kd α} {m : Mem} : ∀ {xs : List α} {cells : List Value}, Rows k m cells xs → cells.length = xs.length * k.sz
  | [], _, h => by simp [Rows] at h; simp [h]
  | x :: xs, _, ⟨a, b, e, h, r⟩ => by
    have h1 := k.len h
    have h2 := Rows.len r
    simp [e, h1, h2, Nat.succ_mul]; omega
theorem Rows.flat {α : Type} {k : Kd α} {m : Mem} : ∀ {xs : List α} {cells : List Value}, Rows k m cells xs → ∀ c ∈ cells, c.oneCell' = true
  | [], _, h => by simp [Rows] at h; simp [h]
  | x :: xs, _, ⟨a, b, e, h, r⟩ => by
    intro c hc
    rw [e, List.mem_append] at hc
    rcases hc with hc | hc
    · exact k.flat h c hc
    · exact Rows.flat r c hc
theorem Rows.append {α : Type} {k : Kd α} {m : Mem} : ∀ {xs ys : List α} {a b : List Value}, Rows k m a xs → Rows k m b ys → Rows k m (a ++ b) (xs ++ ys)
  | [], _, _, _, h, h' => by simp [Rows] at h; simpa [h] using h'
  | x :: xs, _, _, _, ⟨a1, a2, e, h, r⟩, h' => ⟨a1, _, by rw [e, List.append_assoc], h, Rows.append r h'⟩
theorem Rows.one {α : Type} {k : Kd α} {m : Mem} {a : List Value} {x : α} (h : k.at' m a x) : Rows k m a [x] := ⟨a, [], by simp, h, rfl⟩
theorem Rows.split {α : Type} {k : Kd α} {m : Mem} : ∀ {xs ys : List α} {c : List Value}, Rows k m c (xs ++ ys) → Rows k m (c.take (xs.length * k.sz)) xs ∧ Rows k m (c.drop (xs.length * k.sz)) ys
  | [], _, _, h => by simpa [Rows] using h
  | x :: xs, ys, c, ⟨a, b, e, h, r⟩ => by
    have hl := k.len h
    obtain ⟨h1, h2⟩ := Rows.split (xs := xs) (ys := ys) r
    have hx : (x :: xs).length * k.sz = k.sz + xs.length * k.sz := by simp [Nat.succ_mul]; omega
    constructor
    · refine ⟨a, _, ?_, h, h1⟩
      rw [e, hx, show k.sz + xs.length * k.sz = a.length + xs.length * k.sz from by rw [hl], List.take_length_add_append]
    · rw [e, hx, show k.sz + xs.length * k.sz = a.length + xs.length * k.sz from by rw [hl], List.drop_length_add_append]
      exact h2
theorem Rows.take {α : Type} {k : Kd α} {m : Mem} {xs : List α} {c : List Value} (h : Rows k m c xs) (n : Nat) : Rows k m (c.take ((xs.take n).length * k.sz)) (xs.take n) := by
  have := Rows.split (xs := xs.take n) (ys := xs.drop n) (c := c) (k := k) (m := m) (by rwa [List.take_append_drop])
  exact this.1
theorem Rows.drop {α : Type} {k : Kd α} {m : Mem} {xs : List α} {c : List Value} (h : Rows k m c xs) (n : Nat) : Rows k m (c.drop ((xs.take n).length * k.sz)) (xs.drop n) := by
  have := Rows.split (xs := xs.take n) (ys := xs.drop n) (c := c) (k := k) (m := m) (by rwa [List.take_append_drop])
  exact this.2
/-- The cells of element i. -/
theorem Rows.get {α : Type} {k : Kd α} {m : Mem} : ∀ {xs : List α} {c : List Value}, Rows k m c xs → ∀ (i : Nat) (hi : i < xs.length), k.at' m ((c.drop (i * k.sz)).take k.sz) xs[i]
  | x :: xs, c, ⟨a, b, e, h, r⟩, 0, _ => by
    have hl := k.len h
    rw [e, ← hl]; simpa using h
  | x :: xs, c, ⟨a, b, e, h, r⟩, i + 1, hi => by
    have hl := k.len h
    have := Rows.get r i (by simpa using hi)
    have hx : (i + 1) * k.sz = k.sz + i * k.sz := by rw [Nat.succ_mul]; omega
    rw [e, hx, ← hl, List.drop_length_add_append, hl]
    exact this
theorem Rows.set {α : Type} {k : Kd α} {m : Mem} : ∀ {xs : List α} {c : List Value}, Rows k m c xs → ∀ (i : Nat) (hi : i < xs.length) {a : List Value} {y : α}, k.at' m a y →
    Rows k m (c.take (i * k.sz) ++ a ++ c.drop (i * k.sz + k.sz)) (xs.set i y)
  | x :: xs, c, ⟨a0, b, e, h, r⟩, 0, _, a, y, hy => by
    have hl := k.len h
    refine ⟨a, b, ?_, hy, r⟩
    rw [e, ← hl]; simp
  | x :: xs, c, ⟨a0, b, e, h, r⟩, i + 1, hi, a, y, hy => by
    have hl := k.len h
    have := Rows.set r i (by simpa using hi) hy
    refine ⟨a0, _, ?_, h, this⟩
    have hx : (i + 1) * k.sz = k.sz + i * k.sz := by rw [Nat.succ_mul]; omega
    have hy : (i + 1) * k.sz + k.sz = k.sz + (i * k.sz + k.sz) := by omega
    rw [hy, hx, e, ← hl, List.take_length_add_append, List.drop_length_add_append]
    simp
theorem Rows.replicate {α : Type} {k : Kd α} {m : Mem} {a : List Value} {x : α} (h : k.at' m a x) : ∀ n, Rows k m ((List.replicate n a).flatten) (List.replicate n x)
  | 0 => rfl
  | n + 1 => ⟨a, _, by simp [List.replicate_succ], h, Rows.replicate h n⟩

/-! ### Kinds -/
def kInt (k : IntKind) : Kd Int where
  sz := 1
  agg := false
  at' _ cs n := cs = [.int k n]
  len h := by rw [h]; rfl
  mono _ h := h
  flat h c hc := by rw [h] at hc; simp at hc; rw [hc]; rfl
  one _ := rfl
/-- A limb. -/
def kLimb : Kd Nat where
  sz := 1
  agg := false
  at' _ cs n := cs = [.int .u32 (n : Int)] ∧ n < 4294967296
  len h := by rw [h.1]; rfl
  mono _ h := h
  flat h c hc := by rw [h.1] at hc; simp at hc; rw [hc]; rfl
  one _ := rfl
/-- An int that is one. -/
def kI64 : Kd Int where
  sz := 1
  agg := false
  at' _ cs n := cs = [.int .i64 n] ∧ -9223372036854775808 ≤ n ∧ n ≤ 9223372036854775807
  len h := by rw [h.1]; rfl
  mono _ h := h
  flat h c hc := by rw [h.1] at hc; simp at hc; rw [hc]; rfl
  one _ := rfl
def kBool : Kd Bool where
  sz := 1
  agg := false
  at' _ cs b := cs = [.bool b]
  len h := by rw [h]; rfl
  mono _ h := h
  flat h c hc := by rw [h] at hc; simp at hc; rw [hc]; rfl
  one _ := rfl
/-- c holds cs from place o on. -/
def Sub (c : List Value) (o : Nat) (cs : List Value) : Prop := ∃ a b, c = a ++ cs ++ b ∧ a.length = o
theorem Sub.grow {c : List Value} {o : Nat} {cs : List Value} (h : Sub c o cs) (r : List Value) : Sub (c ++ r) o cs := by
  obtain ⟨a, b, e, l⟩ := h
  exact ⟨a, b ++ r, by rw [e]; simp, l⟩
theorem Sub.sub {c : List Value} {o : Nat} {cs : List Value} (h : Sub c o cs) (i n : Nat) (hn : i + n ≤ cs.length) : Sub c (o + i) ((cs.drop i).take n) := by
  obtain ⟨a, b, e, l⟩ := h
  refine ⟨a ++ cs.take i, (cs.drop i).drop n ++ b, ?_, by simp; omega⟩
  have h1 : cs = cs.take i ++ ((cs.drop i).take n ++ (cs.drop i).drop n) := by rw [List.take_append_drop, List.take_append_drop]
  rw [e]
  simp only [List.append_assoc]
  congr 1
  rw [← List.append_assoc ((cs.drop i).take n), ← List.append_assoc (cs.take i), ← h1]
theorem Sub.get {c : List Value} {o : Nat} {cs : List Value} (h : Sub c o cs) (j : Nat) (v : Value) (hj : cs[j]? = some v) : c[o + j]? = some v := by
  obtain ⟨a, b, e, l⟩ := h
  have hlt : j < cs.length := (List.getElem?_eq_some_iff.1 hj).1
  rw [e, List.append_assoc, List.getElem?_append_right (by omega), List.getElem?_append_left (by omega)]
  rw [show o + j - a.length = j from by omega]
  exact hj
/-- A slice whose elements are read. -/
def kSl {α : Type} (k : Kd α) : Kd (List α) where
  sz := 1
  agg := false
  at' m cs xs := ∃ (a : Option Addr) (cap : Nat), cs = [.slice a xs.length cap] ∧ xs.length ≤ 1099511627776 ∧ xs.length ≤ cap ∧
    (xs = [] ∨ ∃ g o c cells, a = some ⟨g, o, none⟩ ∧ m g = some c ∧ Sub c o cells ∧ Rows k m cells xs)
  len := by rintro m cs x ⟨a, cap, rfl, _⟩; rfl
  mono := by
    rintro m m' cs x hm ⟨a, cap, e, h1, h2, h3⟩
    refine ⟨a, cap, e, h1, h2, ?_⟩
    rcases h3 with h | ⟨g, o, c, cells, e1, e2, e3, e4⟩
    · exact .inl h
    · obtain ⟨r, hr⟩ := hm g c e2
      exact .inr ⟨g, o, _, cells, e1, hr, e3.grow r, e4.mono hm⟩
  flat := by
    rintro m cs x ⟨a, cap, rfl, _⟩ c hc
    simp at hc
    rw [hc]; rfl
  one _ := rfl
def kPair {α β : Type} (k : Kd α) (l : Kd β) : Kd (α × β) where
  sz := k.sz + l.sz
  agg := true
  at' m cs x := ∃ a b, cs = a ++ b ∧ k.at' m a x.1 ∧ l.at' m b x.2
  len := by rintro m cs x ⟨a, b, rfl, h, h'⟩; simp [k.len h, l.len h']
  mono := by rintro m m' cs x hm ⟨a, b, e, h, h'⟩; exact ⟨a, b, e, k.mono hm h, l.mono hm h'⟩
  flat := by
    rintro m cs x ⟨a, b, rfl, h, h'⟩ c hc
    rw [List.mem_append] at hc
    rcases hc with hc | hc
    · exact k.flat h c hc
    · exact l.flat h' c hc
  one := by simp
/-- A kind seen through a function: what stands in memory reads as some y with f y x. -/
def kVia {α β : Type} (k : Kd α) (f : α → β → Prop) : Kd β where
  sz := k.sz
  agg := k.agg
  at' m cs x := ∃ y, k.at' m cs y ∧ f y x
  len := by rintro m cs x ⟨y, h, _⟩; exact k.len h
  mono := by rintro m m' cs x hm ⟨y, h, e⟩; exact ⟨y, k.mono hm h, e⟩
  flat := by rintro m cs x ⟨y, h, _⟩; exact k.flat h
  one := k.one
/-- n things of one kind, an array. -/
def kArr {α : Type} (n : Nat) (k : Kd α) : Kd (List α) where
  sz := n * k.sz
  agg := true
  at' m cs xs := xs.length = n ∧ Rows k m cs xs
  len := by rintro m cs x ⟨h, r⟩; rw [r.len, h]
  mono := by rintro m m' cs x hm ⟨h, r⟩; exact ⟨h, r.mono hm⟩
  flat := by rintro m cs x ⟨h, r⟩; exact r.flat
  one := by simp

end Fw
