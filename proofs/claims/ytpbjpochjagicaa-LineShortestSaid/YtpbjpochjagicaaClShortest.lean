/- LineShortest holds of the given program: for every list of numbers it answers true and leaves its argument as it was. -/
import Derived.Test.YtpbjpochjagicaaNums
import Derived.Test.YtpbjpochjagicaaW94
namespace Go.Proofs.Ytpbjpochjagicaa.lineShortest
open Go.ChangeShapes Go.WideShapes Go.ChangeAt Go.RowKit

set_option maxRecDepth 100000 in
theorem lifted (os : Os) (started : os.Started) (H : Type) (enc : TypeId × Value → H) :
    ReturnsInHanded {} Try.checked os 11 .any (Rows.lineShortestSpec.pre6 enc Try.prog Try.f11 Rows.lineShortestRow.domain false) (Rows.lineShortestSpec.post enc Try.prog Try.f11 false true false false) := by
  refine returnsInHanded_of_change (C := Try.checked) own_knob started (by kernel_rfl) Try.func11
    (ChangeSpec.witness6 (enc := enc) (C := Try.checked) false ⟨#[], #[.slice none 0 0], []⟩ 8 (by kernel_rfl) (by kernel_rfl) (by kernel_rfl) (by kernel_rfl)) ?_
  intro W base args ds gs before hval hW _ _
  exact nums_contract Try.params11 (by kernel_rfl) rfl (fun H d => ⟨rfl, rfl, rfl⟩) law11 H enc W base args ds gs before hval hW

theorem holds : Rows.LineShortestSaid :=
  OpenClaim.holds_of_wide 11 Try.f11 rfl rfl rfl rfl rfl rfl rfl ⟨rfl, rfl, rfl, rfl, rfl⟩ rfl rfl rfl rfl rfl (by kernel_rfl) Try.func11 (by kernel_rfl)
    (of_decide_eq_true (by kernel_rfl)) (by unfold Func.isWrapper; first | (rw [if_pos (by decide +kernel)]; kernel_rfl) | (rw [if_neg (by decide +kernel)]; exact ⟨rfl, rfl⟩))
    (fun os started H enc _ => lifted os started H enc)
end Go.Proofs.Ytpbjpochjagicaa.lineShortest
