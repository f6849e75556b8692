/- Walks: what the laws ask of what was dealt. -/
import Derived.Test.YtpbjpochjagicaaW41
import Derived.Test.YtpbjpochjagicaaW49
import Derived.Test.YtpbjpochjagicaaW50
namespace Go.Proofs.Ytpbjpochjagicaa
open Go.RowKit

section
variable {g B P Q : Nat} {w w' : World} {n : Pl.Nt} {n_tA n_sA : Option Addr} {n_tc n_sc : Nat} {c : Pl.Cch} {c_gA c_bA c_hA : Option Addr} {c_gc c_bc c_hc : Nat}
theorem Dealt.asked (h : Dealt g B P Q w n n_tA n_sA n_tc n_sc c c_gA c_bA c_hA c_gc c_bc c_hc) {fr gg ds : Int} (h0 : 0 ≤ fr) (h1 : fr ≤ n.stops - 1) (hg : gg ∈ c.gauges) (h2 : 0 ≤ ds) (h3 : ds ≤ n.stops - 1) : Pl.asked n c fr gg ds = 0 := by
  have ho : Pl.out ds 0 (n.stops - 1) = false := by simp [Pl.out]; omega
  simp [Pl.asked, h.question h0 h1 hg, ho]
/-- The cells of line number k. -/
theorem Dealt.track (h : Dealt g B P Q w n n_tA n_sA n_tc n_sc c c_gA c_bA c_hA c_gc c_bc c_hc) {k : Nat} (hk : k < n.tracks.length) : ∃ bt ot, n_tA = some ⟨bt, ot, none⟩ ∧ bt < w.heap.size ∧ ∀ j v, (trkCells (n.tracks.getD k default))[j]? = some v → w.cell? ⟨bt, ot + k * 9 + j, none⟩ = some v := by
  obtain ⟨bt, ot, h1, h2, h3⟩ := h.tr.trks k n.tracks[k] (List.getElem?_eq_getElem hk)
  have e : n.tracks.getD k default = n.tracks[k] := by simp [List.getD_eq_getElem?_getD, List.getElem?_eq_getElem hk]
  rw [e]
  exact ⟨bt, ot, h1, h2, h3⟩
end
theorem changes_run {n : Pl.Nt} {c : Pl.Cch} {fr g : Int} {l : List Nat} (hp : Pl.printed n c fr g (Pl.ints l) = 0) (h : Pl.RunOk n.tracks.length (Pl.run n c []) (fr, g) l) :
    changesVal n c fr g (Pl.ints l) = .tuple #[.int .i64 (Pl.chOf (Pl.run n c []) (fr, g) l), .int .i64 0] := by
  have ha := Pl.along_run l (fr, g) 0 0 h
  rw [changesVal, if_pos hp, ha, if_pos rfl]
  simp only [Int.zero_add]
theorem run_lines {m : Nat} {r : Pl.Step} : ∀ {l : List Nat} {p : Pl.Place}, Pl.RunOk m r p l → ∀ x ∈ Pl.ints l, 0 ≤ x ∧ x < (m : Int)
  | [], _, _, x, hx => by simp [Pl.ints] at hx
  | k :: l, p, h, x, hx => by
    simp only [Pl.ints, List.map_cons, List.mem_cons] at hx
    rcases hx with rfl | hx
    · have := h.1; omega
    · exact run_lines h.2.2 x hx
end Go.Proofs.Ytpbjpochjagicaa
