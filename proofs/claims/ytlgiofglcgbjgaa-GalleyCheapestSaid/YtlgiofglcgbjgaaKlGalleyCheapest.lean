/- GalleyCheapest holds of the given program: for every list of numbers it answers true and leaves its argument as it was, whatever order its goroutines run in. -/
import Derived.Test.YtlgiofglcgbjgaaM45
namespace Go.Proofs.Ytlgiofglcgbjgaa.galleyCheapest
open Go.ChangeShapes Go.WideShapes Go.ChangeAt Go.RowKit Go.Gal
theorem plain_galleyCheapest:(spS 9||Go.Par.bareB Try.prog 9)=false:=by kernel_rfl
theorem apart_galleyCheapest:¬ FSt 9:=fun h=>Bool.noConfusion ((show (spS 9||Go.Par.bareB Try.prog 9)=true from h).symm.trans plain_galleyCheapest)
set_option maxRecDepth 100000 in
theorem lifted (os:Os) (started:os.Started) (H:Type) (enc:TypeId×Value→H) :
  ReturnsInLeavingWide {} Try.checked os 9 .any (Rows.galleyCheapestSpec.pre6 enc Try.prog Try.f9 Rows.galleyCheapestRow.domain false) (Rows.galleyCheapestSpec.post enc Try.prog Try.f9 false true false false):=by
 refine returnsInLeavingWide_of_change_sized (C:=Try.checked) own_knob started Try.func9
  (ChangeSpec.witness6 (enc:=enc) (C:=Try.checked) false ⟨#[],#[.slice none 0 0],[]⟩ 8 (by kernel_rfl) (by kernel_rfl) (by kernel_rfl) (by kernel_rfl)) ?_
 intro W base args ds gs before hval hW _ _ _
 exact nums_runs apart_galleyCheapest (by kernel_rfl) Try.params9 (by kernel_rfl) rfl (fun H d=>⟨rfl,rfl,rfl⟩) (walked_of law9) H enc W base args ds gs before hval hW
theorem holds:Rows.GalleyCheapestSaid:=
 OpenClaim.holds_of_wide_leaving 9 Try.f9 rfl rfl rfl rfl rfl rfl rfl ⟨rfl,rfl,rfl,rfl,rfl⟩ rfl rfl rfl rfl rfl (by kernel_rfl) Try.func9 (by kernel_rfl)
  (of_decide_eq_true (by kernel_rfl)) (by unfold Func.isWrapper;first|(rw[if_pos (by decide +kernel)];kernel_rfl)|(rw[if_neg (by decide +kernel)];exact⟨rfl,rfl⟩))
  (fun os started H enc _=>lifted os started H enc)
end Go.Proofs.Ytlgiofglcgbjgaa.galleyCheapest
