/- The frame of the walks: numbers in any form are opened, numbers in one form are closed. -/
import Derived.Test.YtgbafijcklgajaaFwK
set_option linter.unusedVariables false
set_option linter.unusedSimpArgs false
namespace Fw
open Go

section
variable {C : Ctx} {Q : Exit → Act → World → Prop} {ρ ρ' : Env} {L L' : List OB}
theorem ST.via {α β : Type} {K : Act → World → Prop} {k : Kd α} {f : α → β → Prop} {x : β} (i : Nat) (e : ρ.get i = some ((kVia k f).is x)) (h : ∀ y, f y x → ST C K ((i, k.is y) :: ρ) L) : ST C K ρ L := fun m w a s t => by
  obtain ⟨cs, h1, y, h2, h3⟩ := t.get i _ e
  exact h y h3 m w a s (t.consH ⟨cs, h1, h2⟩)
/-- A number in any form. -/
theorem ST.z {K : Act → World → Prop} {z : Int} (i : Nat) (e : ρ.get i = some (kZ.is z)) (h : ∀ y : Bool × List Nat, ival y = z → y.2.length ≤ 17179869184 → Lims y.2 → ST C K ((i, kI.is y) :: ρ) L) : ST C K ρ L :=
  ST.via (k := kI) (f := fun y z => ival y = z ∧ y.2.length ≤ 17179869184) i e fun y hy m w a s t => by
    have hl : Lims y.2 := by
      obtain ⟨cs, h1, c1, c2, h2, h3, h4⟩ := t.get i (kI.is y) (by simp [Env.get])
      exact kN_lims m _ ⟨c2, rfl, h4⟩
    exact h y hy.1 hy.2 hl m w a s t
theorem OB.I_Z {g : Nat} {e : TypeId} {x : Bool × List Nat} {z : Int} (h : ival x = z) (hl : x.2.length ≤ 17179869184) : OB.le (OB.box g e kI x) (OB.box g e kZ z) := OB.box_kd fun m cs hx => ⟨x, hx, h, hl⟩
theorem OB.I_C {g : Nat} {e : TypeId} {x : Bool × List Nat} {z : Int} (h : x = canon z) : OB.le (OB.box g e kI x) (OB.box g e kC z) := OB.box_kd fun m cs hx => ⟨x, hx, h⟩
theorem OB.C_Z {g : Nat} {e : TypeId} {z : Int} (h : Sm z) : OB.le (OB.box g e kC z) (OB.box g e kZ z) := OB.box_kd fun m cs hx => kC_Zat h hx
end
theorem zero_I (m : Mem) : kI.at' m [.bool false, .slice none 0 0] (false, []) := ⟨[.bool false], [.slice none 0 0], rfl, rfl, none, 0, rfl, by simp, by simp, .inl rfl⟩
theorem kI_Zis {x : Bool × List Nat} {z : Int} (h : ival x = z) (hl : x.2.length ≤ 17179869184) : VP.le (kI.is x) (kZ.is z) := kI_Z h hl
end Fw
