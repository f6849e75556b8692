/- GalleyUses holds of the given program: for every kitchen, menu and list of numbers it answers true and leaves its arguments as they were, whatever order its goroutines run in. -/
import Derived.Test.YtlgiofglcgbjgaaM44
namespace Go.Proofs.Ytlgiofglcgbjgaa.galleyUses
open Go.ChangeShapes Go.WideShapes Go.ChangeAt Go.RowKit Go.Gal
theorem plain_galleyUses:(spS 6||Go.Par.bareB Try.prog 6)=false:=by kernel_rfl
theorem apart_galleyUses:¬ FSt 6:=fun h=>Bool.noConfusion ((show (spS 6||Go.Par.bareB Try.prog 6)=true from h).symm.trans plain_galleyUses)
theorem walked:zdz 6 [29,22,22]:=fun vs W tp hlen h=>by
 match vs,hlen with
 | [v0,v1,v2],_ =>
  have h0:=(h 0 29 v0 rfl rfl).2
  have h1:=(h 1 22 v1 rfl rfl).2
  have h2:=(h 2 22 v2 rfl rfl).2
  simp only[true_and,false_and,or_false,false_or,Nat.reduceEqDiff] at h0 h1 h2
  obtain⟨K,gA,dA,hA,gc,dc,hc,rfl,_,hk⟩:=h0
  obtain⟨xs,mA,mc,rfl,_,_,hm⟩:=h1
  obtain⟨ns,A,c,rfl,_,hl,hx⟩:=h2
  have:=law6 (fs:=S.funcs) K gA dA hA gc dc hc xs mA mc ns A c (masked W tp) (hk tp) (hm tp) (hx tp) (by simp only[maxLen] at hl;omega)
  rwa [pf_S] at this
theorem types_ok:∀ t∈Try.f6.params.toList,t=29∨t=3∨t=22∨t=32:=by
 rw[Try.params6]
 decide
theorem rows_ok:∀ t∈Try.f6.params.toList,Try.prog.readableRec t=true∧t<Try.prog.types.size:=fun t ht=>by
 rcases types_ok t ht with rfl|rfl|rfl|rfl
 ·exact⟨by kernel_rfl,of_decide_eq_true (by kernel_rfl)⟩
 ·exact⟨by kernel_rfl,of_decide_eq_true (by kernel_rfl)⟩
 ·exact⟨by kernel_rfl,of_decide_eq_true (by kernel_rfl)⟩
 ·exact⟨by kernel_rfl,of_decide_eq_true (by kernel_rfl)⟩
set_option maxRecDepth 100000 in
theorem lifted (os:Os) (started:os.Started) (H:Type) (enc:TypeId×Value→H) :
  ReturnsInLeavingWide {} Try.checked os 6 .any (Rows.galleyUsesSpec.pre6 enc Try.prog Try.f6 Rows.galleyUsesRow.domain false) (Rows.galleyUsesSpec.post enc Try.prog Try.f6 false true false false):=by
 refine returnsInLeavingWide_of_change_sized (C:=Try.checked) own_knob started Try.func6
  (ChangeSpec.witness6 (enc:=enc) (C:=Try.checked) false ⟨#[],#[.agg #[.slice none 0 0,.slice none 0 0,.slice none 0 0],.slice none 0 0,.slice none 0 0],[]⟩ 8 (by kernel_rfl) (by kernel_rfl) (by kernel_rfl) (by kernel_rfl)) ?_
 intro W base args ds gs before hval hW _ _ _
 refine door_runs apart_galleyUses (by kernel_rfl) types_ok rows_ok (by kernel_rfl) rfl (fun H ds hl=>?_) (by rw[Try.params6];exact walked) H enc W base args ds gs before hval hW
 rw[Try.params6] at hl
 match ds,hl with
 | [d0,d1,d2],_=>exact⟨rfl,rfl,rfl⟩
theorem holds:Rows.GalleyUsesSaid:=
 OpenClaim.holds_of_wide_leaving 6 Try.f6 rfl rfl rfl rfl rfl rfl rfl ⟨rfl,rfl,rfl,rfl,rfl⟩ rfl rfl rfl rfl rfl (by kernel_rfl) Try.func6 (by kernel_rfl)
  (of_decide_eq_true (by kernel_rfl)) (by unfold Func.isWrapper;first|(rw[if_pos (by decide +kernel)];kernel_rfl)|(rw[if_neg (by decide +kernel)];exact⟨rfl,rfl⟩))
  (fun os started H enc _=>lifted os started H enc)
end Go.Proofs.Ytlgiofglcgbjgaa.galleyUses
