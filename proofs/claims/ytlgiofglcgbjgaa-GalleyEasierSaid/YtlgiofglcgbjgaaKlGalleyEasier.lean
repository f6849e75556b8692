/- GalleyEasier holds of the given program: for every list of numbers it answers true and leaves its argument as it was, whatever order its goroutines run in. -/
import Derived.Test.YtlgiofglcgbjgaaM43
namespace Go.Proofs.Ytlgiofglcgbjgaa.galleyEasier
open Go.ChangeShapes Go.WideShapes Go.ChangeAt Go.RowKit Go.Gal
theorem plain_galleyEasier:(spS 14||Go.Par.bareB Try.prog 14)=false:=by kernel_rfl
theorem apart_galleyEasier:¬ FSt 14:=fun h=>Bool.noConfusion ((show (spS 14||Go.Par.bareB Try.prog 14)=true from h).symm.trans plain_galleyEasier)
set_option maxRecDepth 100000 in
theorem lifted (os:Os) (started:os.Started) (H:Type) (enc:TypeId×Value→H) :
  ReturnsInLeavingWide {} Try.checked os 14 .any (Rows.galleyEasierSpec.pre6 enc Try.prog Try.f14 Rows.galleyEasierRow.domain false) (Rows.galleyEasierSpec.post enc Try.prog Try.f14 false true false false):=by
 refine returnsInLeavingWide_of_change_sized (C:=Try.checked) own_knob started Try.func14
  (ChangeSpec.witness6 (enc:=enc) (C:=Try.checked) false ⟨#[],#[.slice none 0 0],[]⟩ 8 (by kernel_rfl) (by kernel_rfl) (by kernel_rfl) (by kernel_rfl)) ?_
 intro W base args ds gs before hval hW _ _ _
 exact nums_runs apart_galleyEasier (by kernel_rfl) Try.params14 (by kernel_rfl) rfl (fun H d=>⟨rfl,rfl,rfl⟩) (walked_of law14) H enc W base args ds gs before hval hW
theorem holds:Rows.GalleyEasierSaid:=
 OpenClaim.holds_of_wide_leaving 14 Try.f14 rfl rfl rfl rfl rfl rfl rfl ⟨rfl,rfl,rfl,rfl,rfl⟩ rfl rfl rfl rfl rfl (by kernel_rfl) Try.func14 (by kernel_rfl)
  (of_decide_eq_true (by kernel_rfl)) (by unfold Func.isWrapper;first|(rw[if_pos (by decide +kernel)];kernel_rfl)|(rw[if_neg (by decide +kernel)];exact⟨rfl,rfl⟩))
  (fun os started H enc _=>lifted os started H enc)
end Go.Proofs.Ytlgiofglcgbjgaa.galleyEasier
