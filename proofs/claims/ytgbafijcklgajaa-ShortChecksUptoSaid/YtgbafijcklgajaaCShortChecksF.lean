/- Proved: ShortChecks, for every input of bulk at most 1048576; no other condition. -/
import Derived.Test.YtgbafijcklgajaaCShortChecksE
/- Proved: ShortChecks, for every input of bulk at most 1048576; no other condition. -/
set_option linter.unusedVariables false
namespace Go.Proofs.Ytgbafijcklgajaa.shortChecks
open Go.ChangeShapes Go.WideShapes Go.ChangeAt Go.RowKit Fw
theorem rd31 : Rd Try.prog 31 kZ ZB := rd_Z (rd_struct (fs := [_, _]) Try.underlying31 (by kernel_rfl) (rdf_cons rfl (by kernel_rfl) (rd_bool Try.underlying4) rfl (rdf_last rfl (by kernel_rfl) (rd_sl Try.underlying29 (by kernel_rfl) (by decide) (rd_limb Try.underlying121)))))
theorem rd27 : Rd Try.prog 27 (kSl kZ) (fun xs => xs.length ≤ uptoN ∧ ∀ x ∈ xs, ZB x) := rd_sl Try.underlying27 (by kernel_rfl) (by decide) rd31
theorem rd67 : Rd Try.prog 67 (kSl (kSl kZ)) (fun xs => xs.length ≤ uptoN ∧ ∀ x ∈ xs, (fun xs => xs.length ≤ uptoN ∧ ∀ x ∈ xs, ZB x) x) := rd_sl Try.underlying67 (by kernel_rfl) (by decide) rd27
theorem rd100 : Rd Try.prog 100 (kPair kZ (kPair (kSl kZ) (kPair (kSl kZ) (kPair (kSl (kSl kZ)) (kSl (kSl kZ)))))) (fun x => ZB x.1 ∧ (fun x => (fun xs => xs.length ≤ uptoN ∧ ∀ x ∈ xs, ZB x) x.1 ∧ (fun x => (fun xs => xs.length ≤ uptoN ∧ ∀ x ∈ xs, ZB x) x.1 ∧ (fun x => (fun xs => xs.length ≤ uptoN ∧ ∀ x ∈ xs, (fun xs => xs.length ≤ uptoN ∧ ∀ x ∈ xs, ZB x) x) x.1 ∧ (fun xs => xs.length ≤ uptoN ∧ ∀ x ∈ xs, (fun xs => xs.length ≤ uptoN ∧ ∀ x ∈ xs, ZB x) x) x.2) x.2) x.2) x.2) := rd_struct (fs := [_, _, _, _, _]) Try.underlying100 (by kernel_rfl) (rdf_cons rfl (by kernel_rfl) rd31 rfl (rdf_cons rfl (by kernel_rfl) rd27 rfl (rdf_cons rfl (by kernel_rfl) rd27 rfl (rdf_cons rfl (by kernel_rfl) rd67 rfl (rdf_last rfl (by kernel_rfl) rd67)))))
theorem own : ownKnob Try.prog.godebug = none := by kernel_rfl
theorem laidOut : laidOutB Try.prog = true := by kernel_rfl
set_option maxRecDepth 100000 in
theorem contract (H : Type) (enc : TypeId × Value → H) (W : World) (base : Nat) (args : Array Value) (ds gs : List (DataW H)) (before : List MemPlace)
    (hval : ∀ (j : Nat) t v, Try.f10.params[j]? = some t → args[j]? = some v → Value.okWide Try.prog W .any base t v)
    (hW : DataW.Whole enc Try.prog Try.f10.params.toList Rows.shortChecksSpec.vars false W args.toList ds gs before) (hk : Rows.uptoSmall H (ds ++ gs) = true) :
    Calls Try.prog 10 args W fun e W' => ∃ v, e = .returned v ∧ Rows.shortChecksSpec.post enc Try.prog Try.f10 false true false false W args v W' := by
  have hW' := hW
  obtain ⟨p, q, hA0, hV, rfl, hfz, hnd⟩ := hW
  have hA : DataW.TrodAll enc Try.prog W 0 (fun _ => true) true Try.f10.params.toList args.toList ds p := hA0
  rw [Try.params10] at hA hval
  obtain ⟨rfl, rfl⟩ := trodVars_none hV
  unfold Rows.uptoSmall at hk
  have hbulk := of_decide_eq_true hk
  rw [List.append_nil] at hbulk
  obtain ⟨v0, vs0, d0, ds0, p0, q0, hargs, rfl, rfl, h0, r0⟩ := trodAll_cons hA
  obtain ⟨v1, vs1, d1, ds1, p1, q1, rfl, rfl, rfl, h1, r1⟩ := trodAll_cons r0
  obtain ⟨rfl, rfl, rfl⟩ := trodAll_nil r1
  obtain rfl : args = [v0, v1].toArray := by cases args; simp_all
  simp only [Rows.uptoBulkAll] at hbulk
  obtain ⟨x0, a0, b0⟩ := arg_sl Try.underlying67 rd67 (hval 0 67 v0 rfl rfl) h0 (by unfold uptoN; omega)
  obtain ⟨x1, a1, b1⟩ := arg_agg Try.underlying100 rfl rd100 (hval 1 100 v1 rfl rfl) h1 (by unfold uptoN; omega)
  refine ((c_law16_ShortChecks x0 x1.1 x1.2.1 x1.2.2.1 x1.2.2.2.1 x1.2.2.2.2 (Sz_ZB b1.1) (SzL_ZB b1.2.1.2) (SzL_ZB b1.2.2.1.2)).calls (vs := [v0, v1]) ⟨a0, a1, trivial⟩).mono fun e W' ⟨he, bel⟩ => ?_
  subst he
  exact ⟨_, rfl, _, _, _, [], _, [], hW', trodAll_mk1 (shut_bool Try.underlying4 _), below_all laidOut bel (by kernel_rfl) hA0 (fun x hx => by simpa using hW'.lt x (by simpa using hx)), rfl, bel.frame _, fun h => by cases h⟩
set_option maxRecDepth 100000 in
theorem lifted (os : Os) (started : os.Started) (H : Type) (enc : TypeId × Value → H) (F : Stop.Interp) :
    ReturnsInHanded {} Try.checked os 10 .any ((Rows.OpenSpec.upto Rows.shortChecksSpec).pre6 enc Try.prog Try.f10 Rows.shortChecksUptoRow.domain false) (((Rows.OpenSpec.upto Rows.shortChecksSpec).at F).post enc Try.prog Try.f10 false true false false) := by
  refine returnsInHanded_of_cond (C := Try.checked) (s := Rows.OpenSpec.upto Rows.shortChecksSpec) (k := Rows.uptoSmall) rfl own started (by kernel_rfl) Try.func10
    (OpenSpec.witness (enc := enc) (C := Try.checked) (s := Rows.OpenSpec.upto Rows.shortChecksSpec) (k := Rows.uptoSmall) rfl false ⟨#[], #[.slice none 0 0, .agg #[.bool false, .slice none 0 0, .slice none 0 0, .slice none 0 0, .slice none 0 0, .slice none 0 0]], []⟩ 8 (by kernel_rfl) (by kernel_rfl) (by kernel_rfl)
      (x := ([.nil, .agg [.agg [.lit (.bool false), .nil], .nil, .nil, .nil, .nil]], [], [])) (by kernel_rfl) rfl (by kernel_rfl)) ?_
  intro W base args ds gs before hval hW _ hk _
  exact contract H enc W base args ds gs before hval hW hk
theorem over : Rows.shortChecksUptoRow.holds Try.pinned (Rows.OpenSpec.upto Rows.shortChecksSpec) :=
  OpenClaim.holds_of_cond 10 Try.f10 rfl rfl rfl rfl rfl rfl rfl ⟨rfl, rfl, rfl, rfl, rfl⟩ rfl rfl rfl rfl rfl (by kernel_rfl) Try.func10 (by kernel_rfl)
    (of_decide_eq_true (by kernel_rfl)) (by unfold Func.isWrapper; first | (rw [if_pos (by decide +kernel)]; kernel_rfl) | (rw [if_neg (by decide +kernel)]; exact ⟨rfl, rfl⟩))
    (fun os started H enc _ F => lifted os started H enc F)
theorem proved : Rows.ShortChecksUptoSaid := over
end Go.Proofs.Ytgbafijcklgajaa.shortChecks
