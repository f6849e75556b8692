/- LineRebuilt holds of the given program: for every net, every car, all numbers and every list of numbers it answers true and leaves its arguments as they were. -/
import Derived.Test.YtpbjpochjagicaaGreatNums
import Derived.Test.YtpbjpochjagicaaGreatZe
namespace Go.Proofs.YtpbjpochjagicaaGreat.lineRebuilt
open Go.ChangeShapes Go.WideShapes Go.ChangeAt Go.RowKit

theorem walked : WalkedAt 6 [25, 27, 3, 3, 3, 23] := fun vs w hl h => by
  match vs, hl with
  | [v0, v1, v2, v3, v4, v5], _ =>
    have h0 := h 0 25 v0 rfl rfl
    have h1 := h 1 27 v1 rfl rfl
    have h2 := h 2 3 v2 rfl rfl
    have h3 := h 3 3 v3 rfl rfl
    have h4 := h 4 3 v4 rfl rfl
    have h5 := h 5 23 v5 rfl rfl
    unfold Opened at h0 h1 h2 h3 h4 h5
    simp only [true_and, false_and, or_false, false_or, Nat.reduceEqDiff] at h0 h1 h2 h3 h4 h5
    obtain ⟨n, tA, sA, tc, sc, rfl, ht, hs⟩ := h0
    obtain ⟨c, gA, bA, hA, gc, bc, hc, rfl, hg, hb, hh⟩ := h1
    obtain ⟨k1, rfl⟩ := h2
    obtain ⟨k2, rfl⟩ := h3
    obtain ⟨k3, rfl⟩ := h4
    obtain ⟨A, cp, xs, rfl, hx, hxl⟩ := h5
    refine law6 n tA sA tc sc c gA bA hA gc bc hc k1 k2 k3 A cp xs w (fun hL => ?_) hx hxl
    have f := few_of hL
    exact ⟨⟨ht, hs, by have := f.lt; omega, by have := f.ls; omega⟩, ⟨hg, hb, hh, by have := f.lg; omega, by have := f.lb; omega, by have := f.lh; omega⟩⟩

theorem types_ok : ∀ t ∈ Tryz.f6.params.toList, t = 25 ∨ t = 27 ∨ t = 3 ∨ t = 23 := by
  rw [Tryz.params6]
  decide
theorem rows_ok : ∀ t ∈ Tryz.f6.params.toList, Tryz.prog.readableRec t = true ∧ t < Tryz.prog.types.size := by
  rw [Tryz.params6]
  intro t ht
  simp only [List.mem_cons, List.not_mem_nil, or_false] at ht
  rcases ht with rfl | rfl | rfl | rfl | rfl | rfl
  · exact ⟨by kernel_rfl, of_decide_eq_true (by kernel_rfl)⟩
  · exact ⟨by kernel_rfl, of_decide_eq_true (by kernel_rfl)⟩
  · exact ⟨by kernel_rfl, of_decide_eq_true (by kernel_rfl)⟩
  · exact ⟨by kernel_rfl, of_decide_eq_true (by kernel_rfl)⟩
  · exact ⟨by kernel_rfl, of_decide_eq_true (by kernel_rfl)⟩
  · exact ⟨by kernel_rfl, of_decide_eq_true (by kernel_rfl)⟩

set_option maxRecDepth 100000 in
theorem lifted (os : Os) (started : os.Started) (H : Type) (enc : TypeId × Value → H) :
    ReturnsInHanded {} Tryz.checked os 6 .any (Rows.lineRebuiltSpec.pre6 enc Tryz.prog Tryz.f6 Rows.lineRebuiltRow.domain false) (Rows.lineRebuiltSpec.post enc Tryz.prog Tryz.f6 false true false false) := by
  refine returnsInHanded_of_change (C := Tryz.checked) own_knob started (by kernel_rfl) Tryz.func6
    (ChangeSpec.witness6 (enc := enc) (C := Tryz.checked) false ⟨#[], #[.agg #[.int .i64 0, .slice none 0 0, .slice none 0 0], .agg #[.slice none 0 0, .int .i64 0, .int .i64 0, .slice none 0 0, .slice none 0 0, .bool false], .int .i64 0, .int .i64 0, .int .i64 0, .slice none 0 0], []⟩ 8 (by kernel_rfl) (by kernel_rfl) (by kernel_rfl) (by kernel_rfl)) ?_
  intro W base args ds gs before hval hW _ _
  refine door_contract types_ok rows_ok (by kernel_rfl) rfl (fun H ds hl => ?_) (by rw [Tryz.params6]; exact walked) H enc W base args ds gs before hval hW
  rw [Tryz.params6] at hl
  match ds, hl with
  | [d0, d1, d2, d3, d4, d5], _ => exact ⟨rfl, rfl, rfl⟩

theorem holds : Rows.LineRebuiltSaid :=
  OpenClaim.holds_of_wide 6 Tryz.f6 rfl rfl rfl rfl rfl rfl rfl ⟨rfl, rfl, rfl, rfl, rfl⟩ rfl rfl rfl rfl rfl (by kernel_rfl) Tryz.func6 (by kernel_rfl)
    (of_decide_eq_true (by kernel_rfl)) (by unfold Func.isWrapper; first | (rw [if_pos (by decide +kernel)]; kernel_rfl) | (rw [if_neg (by decide +kernel)]; exact ⟨rfl, rfl⟩))
    (fun os started H enc _ => lifted os started H enc)
end Go.Proofs.YtpbjpochjagicaaGreat.lineRebuilt
