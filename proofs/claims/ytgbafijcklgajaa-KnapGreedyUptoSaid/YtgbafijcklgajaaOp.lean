/- How an argument's reading becomes a datum of the walks' frame; how a contract becomes a row's step. -/
import Derived.Test.YtgbafijcklgajaaRows
import Derived.Test.YtgbafijcklgajaaFwL
import Derived.WalkKit
import Derived.ProofKit
import Derived.OpenShut
import Derived.JoinedCond
import Derived.Carry
set_option linter.unusedVariables false
set_option linter.unusedSimpArgs false
set_option exponentiation.threshold 70
namespace Fw
open Go Go.Proofs Go.ChangeShapes Go.WideShapes Go.RowKit
open Go.Proofs.Ytgbafijcklgajaa.Rows (uptoBulk uptoBulkAll)

def snap (w : World) : Mem := fun g => match w.heap[g]? with
  | some (.cells A _ _) => some A.toList
  | _ => none
theorem snap_fits (w : World) : Fits (snap w) w := fun g c h => by
  unfold snap at h
  split at h
  · rename_i A e f hA
    simp only [Option.some.injEq] at h
    subst h
    exact ⟨A, e, f, [], hA, by simp⟩
  · cases h
theorem snap_cell {w : World} {a : Addr} {v : Value} (h : w.cell? a = some v) : a = ⟨a.block, a.off, none⟩ ∧ ∃ c, snap w a.block = some c ∧ c[a.off]? = some v := by
  unfold World.cell? at h
  split at h
  · rename_i A e f hA
    split at h
    · cases h
    · rename_i hs
      refine ⟨?_, A.toList, by simp [snap, hA], by simpa using h⟩
      cases a with
      | mk b o s => cases s <;> simp_all
  · cases h

theorem bulk_one {H : Type} (d : DataW H) : 1 ≤ uptoBulk d := by
  cases d with
  | lit l => cases l <;> simp [uptoBulk]
  | nil => simp [uptoBulk]
  | ptr d => simp [uptoBulk]
  | slice elems spare => simp [uptoBulk]
  | agg parts => simp [uptoBulk]
  | iface t d => simp [uptoBulk]
  | map entries => simp [uptoBulk]
  | held h => simp [uptoBulk]
theorem bulk_mem {H : Type} {d : DataW H} {l : List (DataW H)} (h : d ∈ l) : uptoBulk d ≤ uptoBulkAll l := by
  induction l with
  | nil => cases h
  | cons x r ih =>
    simp only [uptoBulkAll]
    rcases List.mem_cons.1 h with e | e
    · subst e; omega
    · have := ih e; omega
theorem bulk_len {H : Type} (l : List (DataW H)) : l.length ≤ uptoBulkAll l := by
  induction l with
  | nil => simp [uptoBulkAll]
  | cons x r ih => have := bulk_one x; simp only [uptoBulkAll, List.length_cons]; omega

abbrev uptoN : Nat := 1048576
/-- What reads as a value of the type t reads as a datum of the kind k, and Q holds of it. -/
def Rd (P : Program) (t : TypeId) {α : Type} (k : Kd α) (Q : α → Prop) : Prop :=
  ∀ {H : Type} (enc : TypeId × Value → H) (w : World) (fuel : Nat) (cs : List Value) (d : DataW H) (ps : List MemPlace), DataW.trod enc P w 0 (fun _ => true) true fuel t cs = some (d, ps) → uptoBulk d ≤ uptoN → ∃ x, k.at' (snap w) cs x ∧ Q x

section
variable {P : Program} {t e : TypeId}
theorem Rd.mono {α : Type} {k : Kd α} {Q Q' : α → Prop} (h : Rd P t k Q) (hq : ∀ x, Q x → Q' x) : Rd P t k Q' := fun enc w fuel cs d ps hd hb => by
  obtain ⟨x, h1, h2⟩ := h enc w fuel cs d ps hd hb
  exact ⟨x, h1, hq x h2⟩
theorem rd_int {k : IntKind} (hu : P.underlying t = some (.int k)) : Rd P t (kInt k) (fun n => k.has n) := fun enc w fuel cs d ps hd hb => by
  obtain ⟨n, h1, h2, h3⟩ := DataW.trod_int hu hd
  exact ⟨n, h1, by simpa [Lit.wf, IntKind.has] using h3⟩
theorem rd_i64 (hu : P.underlying t = some (.int .i64)) : Rd P t kI64 (fun _ => True) := fun enc w fuel cs d ps hd hb => by
  obtain ⟨n, h1, h2, h3⟩ := DataW.trod_int hu hd
  have : -9223372036854775808 ≤ n ∧ n ≤ 9223372036854775807 := by simpa [Lit.wf, IntKind.min, IntKind.max, IntKind.signed, IntKind.bits] using h3
  exact ⟨n, ⟨h1, this⟩, trivial⟩
theorem rd_limb (hu : P.underlying t = some (.int .u32)) : Rd P t kLimb (fun _ => True) := fun enc w fuel cs d ps hd hb => by
  obtain ⟨n, h1, h2, h3⟩ := DataW.trod_int hu hd
  have : 0 ≤ n ∧ n ≤ 4294967295 := by simpa [Lit.wf, IntKind.min, IntKind.max, IntKind.signed, IntKind.bits] using h3
  refine ⟨n.toNat, ⟨by rw [h1]; congr 2; omega, by omega⟩, trivial⟩
theorem rd_bool (hu : P.underlying t = some .bool) : Rd P t kBool (fun _ => True) := fun enc w fuel cs d ps hd hb => by
  obtain ⟨b, h1, h2⟩ := DataW.trod_bool hu hd
  exact ⟨b, h1, trivial⟩
theorem rd_sl {α : Type} {k : Kd α} {Q : α → Prop} (hu : P.underlying t = some (.slice e)) (hc : P.cellsOf e = k.sz) (h0 : 0 < k.sz) (h : Rd P e k Q) : Rd P t (kSl k) (fun xs => xs.length ≤ uptoN ∧ ∀ x ∈ xs, Q x) := fun enc w fuel cs d ps hd hb => by
  rcases DataW.trod_slice hu hd with ⟨rfl, hx⟩ | ⟨a, len, cap, elems, rest, n, rfl, rfl, hx, _, hl, hm, hlen, hel, _⟩
  · exact ⟨[], ⟨none, 0, rfl, by simp, by simp, .inl rfl⟩, by simp, by simp⟩
  · simp only [Prod.mk.injEq] at hx
    obtain ⟨rfl, _⟩ := hx
    simp only [uptoBulk] at hb
    have hbl := bulk_len (elems.map (·.1))
    simp only [List.length_map] at hbl
    by_cases h00 : len = 0
    · subst h00
      exact ⟨[], ⟨some a, cap, rfl, by simp, by simp, .inl rfl⟩, by simp, by simp⟩
    -- the cells of element i
    have hcell : ∀ i, i < len → ∃ ci, ci.length = k.sz ∧ (∀ j, j < k.sz → w.cell? (a.add (i * k.sz + j)) = ci[j]?) ∧ ∃ x, k.at' (snap w) ci x ∧ Q x := by
      intro i hi
      have h1 := hel i hi
      rw [hc] at h1
      have hlt : i < elems.length := by omega
      rw [List.getElem?_eq_getElem hlt, Option.bind_eq_some_iff] at h1
      obtain ⟨ci, h2, h3⟩ := h1
      obtain ⟨_, h4, h5⟩ := World.cells?_some h2
      obtain ⟨x, h6, h7⟩ := h enc w n ci elems[i].1 elems[i].2 h3 (by
        have := bulk_mem (H := _) (d := elems[i].1) (l := elems.map (·.1)) (List.mem_map.2 ⟨_, List.getElem_mem hlt, rfl⟩)
        omega)
      refine ⟨ci, h4, fun j hj => ?_, x, h6, h7⟩
      rw [← h5 j hj, Addr.add_add]
    obtain ⟨c0, l0, e0, x0, _⟩ := hcell 0 (by omega)
    have hv0 : ∃ v, c0[0]? = some v := ⟨c0[0], List.getElem?_eq_getElem (by omega)⟩
    obtain ⟨v0, hv0⟩ := hv0
    have h00 := e0 0 h0
    rw [hv0] at h00
    have ha : a = ⟨a.block, a.off, none⟩ := by
      have h01 := (snap_cell h00).1
      cases a with
      | mk b o s =>
        cases s with
        | none => rfl
        | some s => simp [Addr.add] at h01
    obtain ⟨c, hc1, _⟩ := (snap_cell h00).2
    rw [ha] at hc1 hcell ⊢
    simp only [Addr.add_lit] at hc1 hcell
    have hget : ∀ o v, w.cell? ⟨a.block, o, none⟩ = some v → c[o]? = some v := by
      intro o v hv
      obtain ⟨_, c', h1, h2⟩ := snap_cell hv
      simp only at h1 h2
      rw [hc1] at h1
      cases h1
      exact h2
    have key : ∀ m, m ≤ len → a.off + m * k.sz ≤ c.length ∧ ∃ xs : List α, xs.length = m ∧ Rows k (snap w) ((c.drop a.off).take (m * k.sz)) xs ∧ ∀ x ∈ xs, Q x := by
      intro m
      induction m with
      | zero =>
        intro _
        obtain ⟨ci, l1, l2, _⟩ := hcell 0 (by omega)
        have := hget _ _ ((l2 0 h0).trans (List.getElem?_eq_getElem (by omega)))
        have := (List.getElem?_eq_some_iff.1 this).1
        exact ⟨by omega, [], rfl, by simp [Rows], by simp⟩
      | succ m ih =>
        intro hm1
        obtain ⟨ih0, xs, ih1, ih2, ih3⟩ := ih (by omega)
        obtain ⟨ci, l1, l2, x, l3, l4⟩ := hcell m (by omega)
        have hci : ∀ j, j < k.sz → c[a.off + (m * k.sz + j)]? = ci[j]? := by
          intro j hj
          have h1 := l2 j hj
          rw [List.getElem?_eq_getElem (show j < ci.length by omega)] at h1 ⊢
          exact hget _ _ h1
        have hlen' : a.off + (m + 1) * k.sz ≤ c.length := by
          have h1 := hci (k.sz - 1) (by omega)
          rw [List.getElem?_eq_getElem (show k.sz - 1 < ci.length by omega)] at h1
          have := (List.getElem?_eq_some_iff.1 h1).1
          rw [Nat.succ_mul]
          omega
        have hseg : (c.drop (a.off + m * k.sz)).take k.sz = ci := by
          apply List.ext_getElem?
          intro j
          by_cases hj : j < k.sz
          · rw [List.getElem?_take_of_lt hj, List.getElem?_drop, ← hci j hj, Nat.add_assoc]
          · rw [List.getElem?_eq_none (by simp; omega), List.getElem?_eq_none (by omega)]
        have hspl : (c.drop a.off).take ((m + 1) * k.sz) = (c.drop a.off).take (m * k.sz) ++ ci := by
          rw [Nat.succ_mul, List.take_add, List.drop_drop, hseg]
        refine ⟨hlen', xs ++ [x], by simp [ih1], by rw [hspl]; exact ih2.append (Rows.one l3), ?_⟩
        intro y hy
        rcases List.mem_append.1 hy with hy | hy
        · exact ih3 y hy
        · simp at hy; subst hy; exact l4
    obtain ⟨k0, xs, k1, k2, k3⟩ := key len (Nat.le_refl _)
    refine ⟨xs, ⟨some ⟨a.block, a.off, none⟩, cap, by rw [k1], by unfold uptoN at hb; omega, by omega, .inr ⟨a.block, a.off, c, _, rfl, hc1, ⟨c.take a.off, (c.drop a.off).drop (len * k.sz), ?_, by simp; omega⟩, k2⟩⟩, by unfold uptoN at hb ⊢; omega, k3⟩
    rw [List.append_assoc, List.take_append_drop, List.take_append_drop]
/-- The fields of a struct, from one on. -/
def RdF (P : Program) (fs : List Field) (off : Nat) {α : Type} (k : Kd α) (Q : α → Prop) : Prop :=
  ∀ {H : Type} (enc : TypeId × Value → H) (w : World) (n : Nat) (cs : List Value) (xs : List (DataW H × List MemPlace)), xs.length = fs.length →
    (∀ (i : Nat) (f : Field), fs[i]? = some f → DataW.trod enc P w 0 (fun _ => true) true n f.type ((cs.drop f.offset).take (P.cellsOf f.type)) = xs[i]?) → uptoBulkAll (xs.map (·.1)) ≤ uptoN → off + k.sz = cs.length → ∃ x, k.at' (snap w) (cs.drop off) x ∧ Q x
theorem rdf_last {α : Type} {k : Kd α} {Q : α → Prop} {f : Field} {off : Nat} (ho : f.offset = off) (hc : P.cellsOf f.type = k.sz) (h : Rd P f.type k Q) : RdF P [f] off k Q := fun enc w n cs xs hl hx hb hlen => by
  match xs, hl with
  | [y], _ =>
    have h1 := hx 0 f rfl
    rw [ho, hc, List.take_of_length_le (by simp; omega)] at h1
    exact h enc w n _ y.1 y.2 h1 (by simp [uptoBulkAll] at hb; omega)
theorem rdf_cons {α β : Type} {k : Kd α} {l : Kd β} {Q : α → Prop} {R : β → Prop} {f : Field} {fs : List Field} {off off' : Nat} (ho : f.offset = off) (hc : P.cellsOf f.type = k.sz) (h : Rd P f.type k Q) (ho' : off + k.sz = off') (hr : RdF P fs off' l R) : RdF P (f :: fs) off (kPair k l) (fun x => Q x.1 ∧ R x.2) := fun enc w n cs xs hl hx hb hlen => by
  match xs, hl with
  | y :: ys, hl =>
    simp only [List.map_cons, uptoBulkAll] at hb
    have hlen' : off + (k.sz + l.sz) = cs.length := hlen
    have h1 := hx 0 f rfl
    rw [ho, hc] at h1
    obtain ⟨x, h2, h3⟩ := h enc w n _ y.1 y.2 h1 (by omega)
    obtain ⟨z, h4, h5⟩ := hr enc w n cs ys (by simpa using hl) (fun i g hg => by simpa using hx (i + 1) g (by simpa using hg)) (by omega) (by omega)
    refine ⟨(x, z), ⟨_, _, ?_, h2, h4⟩, h3, h5⟩
    rw [← ho', ← List.drop_drop, List.take_append_drop]
theorem rd_struct {α : Type} {k : Kd α} {Q : α → Prop} {fs : List Field} (hu : P.underlying t = some (.struct fs.toArray)) (hc : P.cellsOf t = k.sz) (h : RdF P fs 0 k Q) : Rd P t k Q := fun enc w fuel cs d ps hd hb => by
  obtain ⟨xs, n, _, hx, hl, hlen, hf⟩ := DataW.trod_struct hu hd
  simp only [Prod.mk.injEq] at hx
  obtain ⟨rfl, _⟩ := hx
  simp only [uptoBulk] at hb
  have := h enc w n cs xs (by simpa using hlen) (fun i f hi => hf i f (by simpa using hi)) (by omega) (by omega)
  simpa using this
/-- A number that came in. -/
def ZB (z : Int) : Prop := z.natAbs < 4294967296 ^ uptoN
theorem rd_Z (h : Rd P t kI (fun x => True ∧ x.2.length ≤ uptoN ∧ ∀ y ∈ x.2, True)) : Rd P t kZ ZB := fun enc w fuel cs d ps hd hb => by
  obtain ⟨x, h1, _, h2, _⟩ := h enc w fuel cs d ps hd hb
  have hl : Lims x.2 := by
    obtain ⟨a, b, _, _, _, _, _, _, _, h3⟩ := h1
    rcases h3 with h3 | ⟨_, _, _, _, _, _, _, r⟩
    · intro y hy; rw [h3] at hy; cases hy
    · exact rows_lims r
  have hv : (ival x).natAbs = nval x.2 := by
    unfold ival; split <;> simp
  refine ⟨ival x, ⟨x, h1, rfl, by unfold uptoN at h2; omega⟩, ?_⟩
  unfold ZB
  rw [hv]
  exact Nat.lt_of_lt_of_le (nval_lt hl) (Nat.pow_le_pow_right (by omega) h2)

/-! ### Values -/
theorem arg_sl {α : Type} {k : Kd α} {Q : List α → Prop} (hu : P.underlying t = some (.slice e)) (h : Rd P t (kSl k) Q) {H : Type} {enc : TypeId × Value → H} {w : World} {base : Nat} {v : Value} {d : DataW H} {ps : List MemPlace} (hval : Value.okWide P w .any base t v) (hd : DataW.Trod enc P w 0 (fun _ => true) true t v d ps) (hb : uptoBulk d ≤ uptoN) : ∃ x, ((kSl k).is x).p (snap w) v ∧ Q x := by
  obtain ⟨fuel, hd⟩ := hd
  obtain ⟨x, h1, h2⟩ := h enc w fuel _ d ps hd hb
  refine ⟨x, ⟨_, ?_, h1⟩, h2⟩
  obtain ⟨a, cap, h3, _⟩ := h1
  cases v with
  | slice a n c => rfl
  | agg cs => simp [Value.okWide, hu, Cell.okWide, Cell.ok] at hval
  | _ => simp [Value.cells] at h3
theorem arg_int {k : IntKind} (hu : P.underlying t = some (.int k)) {H : Type} {enc : TypeId × Value → H} {w : World} {base : Nat} {v : Value} {d : DataW H} {ps : List MemPlace} (hval : Value.okWide P w .any base t v) (hd : DataW.Trod enc P w 0 (fun _ => true) true t v d ps) : ∃ x, ((kInt k).is x).p (snap w) v ∧ (Lit.int k x).wf = true := by
  obtain ⟨n, rfl, _, _, hw⟩ := open_int hu hval hd
  exact ⟨n, ⟨_, rfl, rfl⟩, hw⟩
theorem arg_i64 (hu : P.underlying t = some (.int .i64)) {H : Type} {enc : TypeId × Value → H} {w : World} {base : Nat} {v : Value} {d : DataW H} {ps : List MemPlace} (hval : Value.okWide P w .any base t v) (hd : DataW.Trod enc P w 0 (fun _ => true) true t v d ps) : ∃ x, (kI64.is x).p (snap w) v ∧ True := by
  obtain ⟨n, rfl, _, _, hw⟩ := open_int hu hval hd
  have : -9223372036854775808 ≤ n ∧ n ≤ 9223372036854775807 := by simpa [Lit.wf, IntKind.min, IntKind.max, IntKind.signed, IntKind.bits] using hw
  exact ⟨n, ⟨_, rfl, rfl, this⟩, trivial⟩
theorem arg_agg {α : Type} {k : Kd α} {Q : α → Prop} {fs : Array Field} (hu : P.underlying t = some (.struct fs)) (hk : k.agg = true) (h : Rd P t k Q) {H : Type} {enc : TypeId × Value → H} {w : World} {base : Nat} {v : Value} {d : DataW H} {ps : List MemPlace} (hval : Value.okWide P w .any base t v) (hd : DataW.Trod enc P w 0 (fun _ => true) true t v d ps) (hb : uptoBulk d ≤ uptoN) : ∃ x, (k.is x).p (snap w) v ∧ Q x := by
  obtain ⟨fuel, hd⟩ := hd
  obtain ⟨x, h1, h2⟩ := h enc w fuel _ d ps hd hb
  refine ⟨x, ⟨_, ?_, h1⟩, h2⟩
  simp only [Value.okWide, hu] at hval
  obtain ⟨cs, rfl, _⟩ := hval
  simp [Kd.val, hk, Value.cells]
theorem arg_arr {α : Type} {k : Kd α} {Q : α → Prop} {n : Nat} (hu : P.underlying t = some (.array n e)) (hk : k.agg = true) (h : Rd P t k Q) {H : Type} {enc : TypeId × Value → H} {w : World} {base : Nat} {v : Value} {d : DataW H} {ps : List MemPlace} (hval : Value.okWide P w .any base t v) (hd : DataW.Trod enc P w 0 (fun _ => true) true t v d ps) (hb : uptoBulk d ≤ uptoN) : ∃ x, (k.is x).p (snap w) v ∧ Q x := by
  obtain ⟨fuel, hd⟩ := hd
  obtain ⟨x, h1, h2⟩ := h enc w fuel _ d ps hd hb
  refine ⟨x, ⟨_, ?_, h1⟩, h2⟩
  simp only [Value.okWide, hu] at hval
  obtain ⟨cs, rfl, _⟩ := hval
  simp [Kd.val, hk, Value.cells]

/-! ### Behind the call -/
theorem below_all {H : Type} {enc : TypeId × Value → H} (hl : laidOutB P = true) {W W' : World} (hb : Below W.heap.size W W') : ∀ {ts : List TypeId} {vs : List Value} {ds : List (DataW H)} {ps : List MemPlace}, ts.all (fun t => P.readableRec t && decide (t < P.types.size)) = true → DataW.TrodAll enc P W 0 (fun _ => true) true ts vs ds ps → (∀ x ∈ ps, x.block < W.heap.size) → DataW.TrodAll enc P W' 0 (fun b => decide (b < W.heap.size)) true ts vs ds ps
  | [], [], [], _, _, h, _ => h
  | t :: ts, v :: vs, d :: ds, _, hr, ⟨p, q, h1, h2, rfl⟩, hlt => by
    simp only [List.all_cons, Bool.and_eq_true, decide_eq_true_eq] at hr
    exact ⟨p, q, Below.trod hl hr.1.1 hr.1.2 h1 hb (fun x hx => hlt x (List.mem_append.2 (.inl hx))), below_all hl hb (by simpa using hr.2) h2 (fun x hx => hlt x (List.mem_append.2 (.inr hx))), rfl⟩
/-- What a contract with plain arguments gives of the call. -/
theorem Fn.calls {f : FuncId} {pre : List VP} {b : Bool} (h : Fn P f pre (kBool.is b)) {W : World} {vs : List Value} (ha : Args (snap W) vs pre) : Calls P f vs.toArray W fun e W' => e = .returned (.bool b) ∧ Below W.heap.size W W' := by
  refine (h (snap W) W vs (snap_fits W) ha ⟨fun b hb => (by cases hb), List.Pairwise.nil⟩).mono ?_
  rintro e w' ⟨m', v, p, Lo, rfl, s, hp, rfl, rfl⟩
  obtain ⟨cs, rfl, rfl⟩ := hp
  exact ⟨rfl, s.grow.below⟩
end
theorem ZB_gen {z : Int} {k : Nat} (h : z.natAbs < 4294967296 ^ k) : z.natAbs < 2 ^ (32 * k) := by
  rw [show (4294967296 : Nat) = 2 ^ 32 from rfl, ← Nat.pow_mul] at h
  exact h
theorem ZB_lt {z : Int} (h : ZB z) : ∃ n, n ≤ 33554432 ∧ z.natAbs < 2 ^ n := ⟨32 * uptoN, by unfold uptoN; omega, ZB_gen h⟩
end Fw
