/- Walks: how often bogies are changed on a way: Changes (by gen_changes.py, out of W10). Walks: Way where the question is a good one: no more ways than memory holds. Walks: what the laws ask of what was dealt. -/
import Derived.Test.YtpbjpochjagicaaGreatW10
import Derived.Test.YtpbjpochjagicaaGreatW32
import Derived.Test.YtpbjpochjagicaaGreatWy
import Derived.Test.YtpbjpochjagicaaGreatW40
namespace Go.Proofs.YtpbjpochjagicaaGreat
open Go.RowKit

def changesVal (n : Pl.Nt) (c : Pl.Cch) (fr g : Int) (way : List Int) : Value :=
  if Pl.printed n c fr g way = 0 then (if (Pl.along n c (fr, g) way 0 0).2.2 = 0 then .tuple #[.int .i64 (Pl.along n c (fr, g) way 0 0).1, .int .i64 0] else .tuple #[.int .i64 0, .int .i64 9])
  else .tuple #[.int .i64 0, .int .i64 (Pl.printed n c fr g way)]

end Go.Proofs.YtpbjpochjagicaaGreat

namespace Go.Proofs.YtpbjpochjagicaaGreat
open Go.RowKit

theorem places_blocks : places = Pl.blockAt 0 ++ (Pl.blockAt 1 ++ (Pl.blockAt 2 ++ (Pl.blockAt 3 ++ (Pl.blockAt 4 ++ Pl.blockAt 5)))) := by decide
theorem trk_in {n : Pl.Nt} (h : Pl.check n = 0) {i : Nat} (hi : i < n.tracks.length) : TrkOk n.stops (n.tracks.getD i default) := by
  have e : n.tracks.getD i default = n.tracks[i] := by simp [List.getD_eq_getElem?_getD, List.getElem?_eq_getElem hi]
  rw [e]
  exact (check_tracks h).2 _ (List.getElem_mem hi)
theorem km_pos {n : Pl.Nt} (h : Pl.check n = 0) : ∀ i, i < n.tracks.length → 0 ≤ (n.tracks.getD i default).km := fun i hi => by
  have := (trk_in h hi).km0
  omega
theorem asked_good {n : Pl.Nt} {c : Pl.Cch} {fr g ds : Int} (h : Pl.asked n c fr g ds = 0) : Pl.check n = 0 ∧ Pl.fits c = 0 ∧ 0 ≤ fr ∧ fr ≤ n.stops - 1 ∧ g ∈ c.gauges ∧ 0 ≤ ds ∧ ds ≤ n.stops - 1 := by
  obtain ⟨hq, ho⟩ := asked_q h
  obtain ⟨hb, hf, hg⟩ := question_b hq
  obtain ⟨h1, h2⟩ := both_check hb
  have := out_false ho
  have := out_false hf
  exact ⟨h1, h2, by omega, by omega, hg, by omega, by omega⟩
theorem found_max {n : Pl.Nt} {c : Pl.Cch} {fr g ds : Int} (h : Pl.asked n c fr g ds = 0) : (Pl.found n c fr g ds).length ≤ tripMax := by
  obtain ⟨h1, h2, f0, f1, hg, _, _⟩ := asked_good h
  refine Nat.le_trans (Pl.found_le (n := n) (c := c) (fr := fr) (g := g) ?_ ?_ (check_tracks h1).1) (by decide)
  · rw [← places_blocks]
    exact (way_in (c' := c) h).close
  · rw [← places_blocks]
    exact start_in h
theorem wayok_any (n : Pl.Nt) (n_tA n_sA : Option Addr) (n_tc n_sc : Nat) (c : Pl.Cch) (c_gA c_bA c_hA : Option Addr) (c_gc c_bc c_hc : Nat) (fr g ds : Int) (w : World) (hn : NReads w w.heap.size n n_tA n_sA n_tc n_sc) (hr : CReads w w.heap.size c c_gA c_bA c_hA c_gc c_bc c_hc) (hA : Pl.asked n c fr g ds = 0) :
    Calls Tryz.prog 23 #[.agg #[.int .i64 n.stops, .slice n_tA n.tracks.length n_tc, .slice n_sA n.shops.length n_sc], .agg #[.slice c_gA c.gauges.length c_gc, .int .i64 c.size, .int .i64 c.load, .slice c_bA c.brakes.length c_bc, .slice c_hA c.heats.length c_hc, .bool c.hooks], .int .i64 fr, .int .i64 g, .int .i64 ds] w (WayPost 0 (Pl.way n c fr g ds) w) := by
  have h := way_any n n_tA n_sA n_tc n_sc c c_gA c_bA c_hA c_gc c_bc c_hc fr g ds w hn hr (found_max hA)
  rw [hA] at h
  exact h
end Go.Proofs.YtpbjpochjagicaaGreat

namespace Go.Proofs.YtpbjpochjagicaaGreat
open Go.RowKit

section
variable {g B P Q : Nat} {w w' : World} {n : Pl.Nt} {n_tA n_sA : Option Addr} {n_tc n_sc : Nat} {c : Pl.Cch} {c_gA c_bA c_hA : Option Addr} {c_gc c_bc c_hc : Nat}
theorem Dealt.asked (h : Dealt g B P Q w n n_tA n_sA n_tc n_sc c c_gA c_bA c_hA c_gc c_bc c_hc) {fr gg ds : Int} (h0 : 0 ≤ fr) (h1 : fr ≤ n.stops - 1) (hg : gg ∈ c.gauges) (h2 : 0 ≤ ds) (h3 : ds ≤ n.stops - 1) : Pl.asked n c fr gg ds = 0 := by
  have ho : Pl.out ds 0 (n.stops - 1) = false := by simp [Pl.out]; omega
  simp [Pl.asked, h.question h0 h1 hg, ho]
/-- The cells of line number k. -/
theorem Dealt.track (h : Dealt g B P Q w n n_tA n_sA n_tc n_sc c c_gA c_bA c_hA c_gc c_bc c_hc) {k : Nat} (hk : k < n.tracks.length) : ∃ bt ot, n_tA = some ⟨bt, ot, none⟩ ∧ bt < w.heap.size ∧ ∀ j v, (trkCells (n.tracks.getD k default))[j]? = some v → w.cell? ⟨bt, ot + k * 9 + j, none⟩ = some v := by
  obtain ⟨bt, ot, h1, h2, h3⟩ := h.tr.trks k n.tracks[k] (List.getElem?_eq_getElem hk)
  have e : n.tracks.getD k default = n.tracks[k] := by simp [List.getD_eq_getElem?_getD, List.getElem?_eq_getElem hk]
  rw [e]
  exact ⟨bt, ot, h1, h2, h3⟩
end
theorem changes_run {n : Pl.Nt} {c : Pl.Cch} {fr g : Int} {l : List Nat} (hp : Pl.printed n c fr g (Pl.ints l) = 0) (h : Pl.RunOk n.tracks.length (Pl.run n c []) (fr, g) l) :
    changesVal n c fr g (Pl.ints l) = .tuple #[.int .i64 (Pl.chOf (Pl.run n c []) (fr, g) l), .int .i64 0] := by
  have ha := Pl.along_run l (fr, g) 0 0 h
  rw [changesVal, if_pos hp, ha, if_pos rfl]
  simp only [Int.zero_add]
theorem run_lines {m : Nat} {r : Pl.Step} : ∀ {l : List Nat} {p : Pl.Place}, Pl.RunOk m r p l → ∀ x ∈ Pl.ints l, 0 ≤ x ∧ x < (m : Int)
  | [], _, _, x, hx => by simp [Pl.ints] at hx
  | k :: l, p, h, x, hx => by
    simp only [Pl.ints, List.map_cons, List.mem_cons] at hx
    rcases hx with rfl | hx
    · have := h.1; omega
    · exact run_lines h.2.2 x hx
end Go.Proofs.YtpbjpochjagicaaGreat
