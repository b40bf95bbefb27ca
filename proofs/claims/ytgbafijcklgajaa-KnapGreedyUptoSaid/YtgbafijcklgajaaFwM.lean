/- The frame of the walks: a region that draws its order, all orders one by one. -/
import Derived.Test.YtgbafijcklgajaaFwL
set_option linter.unusedVariables false
set_option linter.unusedSimpArgs false
namespace Fw
open Go

section
variable {C : Ctx} {Q : Exit → Act → World → Prop} {ρ : Env} {L L' : List OB} {ops : Array Oper}
/-- From here on, whatever order is picked. -/
abbrev DA (C : Ctx) (ops : Array Oper) (Q : Exit → Act → World → Prop) (fuel : Nat) (listed : Array Bool) (ρ : Env) (L : List OB) : Prop := ST C (wpAny C.P .any ops Q fuel listed) ρ L
abbrev DO (C : Ctx) (ops : Array Oper) (Q : Exit → Act → World → Prop) (fuel : Nat) (listed : Array Bool) (j : Nat) (ρ : Env) (L : List OB) : Prop := ST C (wpOp C.P ops Q j (wpAny C.P .any ops Q fuel (listed.setIfInBounds j true))) ρ L
theorem CW.any {id : Nat} (hm : C.P.follows .mixedOrders = true) (h : DA C ops Q ops.size (Array.replicate ops.size false) ρ L) : CW C Q (.region id ops true) ρ L := fun m w a s t =>
  wp_region_any hm (h m _ a (s.lift (Mem.le_refl m) s.fits ⟨rfl, rfl, rfl, Nat.le_refl _, fun _ _ _ => rfl⟩ (fun _ _ h => h)) t)
def DAll (C : Ctx) (ops : Array Oper) (Q : Exit → Act → World → Prop) (fuel : Nat) (listed : Array Bool) (ρ : Env) (L : List OB) : List Nat → Prop
  | [] => True
  | j :: js => DO C ops Q fuel listed j ρ L ∧ DAll C ops Q fuel listed ρ L js
theorem DAll.get {fuel : Nat} {listed : Array Bool} : ∀ {js : List Nat}, DAll C ops Q fuel listed ρ L js → ∀ j ∈ js, DO C ops Q fuel listed j ρ L
  | _ :: _, ⟨h, r⟩, j, hj => by
    rcases List.mem_cons.1 hj with rfl | hj
    · exact h
    · exact DAll.get r j hj
theorem DA.go {fuel : Nat} {listed : Array Bool} (j : Nat) (js : List Nat) (hr : Region.ready .any ops listed = j :: js) (h : DAll C ops Q fuel listed ρ L (j :: js)) : DA C ops Q (fuel + 1) listed ρ L := fun m w a s t => by
  refine ⟨fun h0 => ?_, fun i hi => ?_⟩
  · rw [hr] at h0; cases h0
  · rw [hr] at hi; exact DAll.get h i hi m w a s t
theorem DA.nil {listed : Array Bool} (hr : Region.ready .any ops listed = []) (h : QE C Q .normal ρ L) : DA C ops Q 0 listed ρ L := fun m w a s t => ⟨hr, h m w a s t⟩
theorem DO.s {fuel j : Nat} {listed : Array Bool} {d : Tmp} {op : Op} {ty : TypeId} {pos : String} {after : Array Edge} {g : Option (Nat × Bool)} {p : VP} (hi : ops[j]? = some ⟨some d, op, ty, pos, after, g⟩) (hr : Run ops ρ ⟨some d, op, ty, pos, after, g⟩) (ho : OpOk C ⟨some d, op, ty, pos, after, g⟩ ρ L p L') (h : DA C ops Q fuel (listed.setIfInBounds j true) ((d, p) :: ρ) L') (hd : Nat.blt d C.N = true := by rfl) : DO C ops Q fuel listed j ρ L := fun m w a s t => by
  unfold wpOp
  simp only [hi]
  rw [if_pos (hr _ m a t)]
  exact .inl (ho m w a s t _ _ fun m' w' v hm s' hp => h m' w' _ s' ((t.up hm).put hp hd))
theorem DO.t {fuel j : Nat} {listed : Array Bool} {op : Op} {ty : TypeId} {pos : String} {after : Array Edge} {g : Option (Nat × Bool)} {p : VP} (hi : ops[j]? = some ⟨none, op, ty, pos, after, g⟩) (hr : Run ops ρ ⟨none, op, ty, pos, after, g⟩) (ho : OpOk C ⟨none, op, ty, pos, after, g⟩ ρ L p L') (h : DA C ops Q fuel (listed.setIfInBounds j true) ρ L') : DO C ops Q fuel listed j ρ L := fun m w a s t => by
  unfold wpOp
  simp only [hi]
  rw [if_pos (hr _ m a t)]
  exact .inl (ho m w a s t _ _ fun m' w' v hm s' hp => h m' w' _ s' (t.up hm))
/-- []T{..}, kept as the call's own. -/
theorem WP.bso {rest : List Oper} {ty : TypeId} {pos : String} {after : Array Edge} {g : Option (Nat × Bool)} {α : Type} {k : Kd α} {ys : List α} {d : Tmp} {T e : TypeId} {n : Nat} {parts : List (Nat × Operand)} (hr : Run ops ρ ⟨some d, .buildSlice T n parts.toArray, ty, pos, after, g⟩) (hu : C.P.underlying T = some (.slice e)) (he : ElOk C.P e k) (hp : evl ρ k 0 parts ys) (hn : ys.length = n) (hn2 : n * k.sz ≤ 16777216)
    (h : ∀ v, WP C ops Q rest ((d, VP.ex v) :: ρ) (OB.row v e k ys :: L)) (hd : Nat.blt d C.N = true := by rfl) : WP C ops Q (⟨some d, .buildSlice T n parts.toArray, ty, pos, after, g⟩ :: rest) ρ L := fun m w a s t => by
  unfold wpList
  rw [if_pos (hr _ m a t)]
  refine .inl ?_
  have hsz := he
  obtain ⟨i, z, h1, h2, h3, h4, h5, h6⟩ := hsz
  have hnn : n ≤ n * k.sz := Nat.le_mul_of_pos_right _ h6
  obtain ⟨B, hB, hrun⟩ := run_buildSlice (Φ := fun B => Rows k m B.toList ys) hu he w n (parts.toArray.map fun p => (p.1, a.eval p.2)) hn2 (fun A hA => by
    obtain ⟨B, cells, r1, r2, r3⟩ := fill_list t (A := A) hp (by simp [hn, hA])
    simp only [Nat.zero_mul, List.take_zero, List.nil_append] at r3
    exact ⟨B, by simpa using r1, by rw [r3]; exact r2⟩)
  have hrun' : (execOp a.eval ⟨some d, .buildSlice T n parts.toArray, ty, pos, after, g⟩).run C.P w = .ok (.value (.slice (some ⟨w.heap.size, 0, none⟩) n n)) (w.alloc (.cells B e)) := by
    simp only [execOp, Sem.run_bind, hrun, Result.andThen_ok]
    rfl
  unfold Oper.wp
  rw [hrun']
  have hgrow : Grow [] w (w.alloc (.cells B e)) := ⟨rfl, rfl, rfl, by simp, fun i hi _ => RowKit.Below.heap_alloc w _ i hi⟩
  have hlen := hB.len
  rw [hn] at hlen
  have hsz2 : B.size = n * k.sz := by simpa using hlen
  refine h _ m _ _ (s.new hgrow (OB.row (.slice (some ⟨w.heap.size, 0, none⟩) n n) e k ys) ⟨B.toList, ⟨?_, .inr ⟨w.heap.size, n, B, ?_, Nat.zero_le _, heap_alloc_new w _, ?_, ?_, hsz2, ?_⟩⟩, hB, by omega⟩ ?_) (t.put rfl hd)
  · rw [hn]; simpa using hsz2
  · rw [hn]
  · omega
  · unfold maxLen; omega
  · rw [hn, List.take_of_length_le]; simp [hsz2]
  · intro i hi
    simp [OB.row, Value.ownBlock] at hi
    subst hi
    simp
end
end Fw
