/- Walks: how often bogies are changed on a way: Changes (by gen_changes.py, out of W10). Walks: Way where the question is a good one: no more ways than memory holds. Walks: what the laws ask of what was dealt. -/
import Derived.Test.YtpbjpochjagicaaGreatDoorRRW10
import Derived.Test.YtpbjpochjagicaaGreatDoorRRW32
import Derived.Test.YtpbjpochjagicaaGreatDoorRRWy
import Derived.Test.YtpbjpochjagicaaGreatDoorRRW40
namespace Go.Proofs.YtpbjpochjagicaaGreatDoorRR
open Go.RowKit

def changesVal (n : Pl.Nt) (c : Pl.Cch) (fr g : Int) (way : List Int) : Value :=
  if Pl.printed n c fr g way = 0 then (if (Pl.along n c (fr, g) way 0 0).2.2 = 0 then .tuple #[.int .i64 (Pl.along n c (fr, g) way 0 0).1, .int .i64 0] else .tuple #[.int .i64 0, .int .i64 9])
  else .tuple #[.int .i64 0, .int .i64 (Pl.printed n c fr g way)]

set_option maxHeartbeats 2000000 in
theorem changes_any (n : Pl.Nt) (n_tA n_sA : Option Addr) (n_tc n_sc : Nat) (c : Pl.Cch) (c_gA c_bA c_hA : Option Addr) (c_gc c_bc c_hc : Nat) (fr g : Int) (wA : Option Addr) (wc : Nat) (way : List Int) (w : World) (hn : NReads w w.heap.size n n_tA n_sA n_tc n_sc) (hr : CReads w w.heap.size c c_gA c_bA c_hA c_gc c_bc c_hc) (hw : Ints w w.heap.size wA way) (hwl : way.length ≤ 140737488355328) :
    Calls Tryz.prog 15 #[.agg #[.int .i64 n.stops, .slice n_tA n.tracks.length n_tc, .slice n_sA n.shops.length n_sc], .agg #[.slice c_gA c.gauges.length c_gc, .int .i64 c.size, .int .i64 c.load, .slice c_bA c.brakes.length c_bc, .slice c_hA c.heats.length c_hc, .bool c.hooks], .int .i64 fr, .int .i64 g, .slice wA way.length wc] w fun e w' => e = .returned (changesVal n c fr g way) ∧ Below w.heap.size w w' := by
  have hb2 : ∀ (o1 o2 : Obj), Below w.heap.size w ((w.alloc o1).alloc o2) := fun o1 o2 => ((Below.refl _ _).alloc (Nat.le_refl _) _).alloc (by simp) _
  have Hn := Lib.hid (((hn.below (hb2 (.cells #[.int .i64 n.stops, .slice n_tA n.tracks.length n_tc, .slice n_sA n.shops.length n_sc] 25) (.cells #[.slice c_gA c.gauges.length c_gc, .int .i64 c.size, .int .i64 c.load, .slice c_bA c.brakes.length c_bc, .slice c_hA c.heats.length c_hc, .bool c.hooks] 28)))).more (B' := w.heap.size + 1 + 1) (by omega))
  have Hr := Lib.hid (((hr.below (hb2 (.cells #[.int .i64 n.stops, .slice n_tA n.tracks.length n_tc, .slice n_sA n.shops.length n_sc] 25) (.cells #[.slice c_gA c.gauges.length c_gc, .int .i64 c.size, .int .i64 c.load, .slice c_bA c.brakes.length c_bc, .slice c_hA c.heats.length c_hc, .bool c.hooks] 28)))).more (B' := w.heap.size + 1 + 1) (by omega))
  have Hw := Lib.hid (((hw.below (hb2 (.cells #[.int .i64 n.stops, .slice n_tA n.tracks.length n_tc, .slice n_sA n.shops.length n_sc] 25) (.cells #[.slice c_gA c.gauges.length c_gc, .int .i64 c.size, .int .i64 c.load, .slice c_bA c.brakes.length c_bc, .slice c_hA c.heats.length c_hc, .bool c.hooks] 28)))).more (B' := w.heap.size + 1 + 1) (by omega))
  have HB2 := Lib.hid hb2; clear hb2 hn hr hw
  have HM0 : Hid (((w.alloc (.cells #[.int .i64 n.stops, .slice n_tA n.tracks.length n_tc, .slice n_sA n.shops.length n_sc] 25)).alloc (.cells #[.slice c_gA c.gauges.length c_gc, .int .i64 c.size, .int .i64 c.load, .slice c_bA c.brakes.length c_bc, .slice c_hA c.heats.length c_hc, .bool c.hooks] 28)).heap[w.heap.size]? = some (.cells #[.int .i64 n.stops, .slice n_tA n.tracks.length n_tc, .slice n_sA n.shops.length n_sc] 25 (0, 0))) := blk_alloc (heap_alloc_new w _) _
  have HM1 : Hid (((w.alloc (.cells #[.int .i64 n.stops, .slice n_tA n.tracks.length n_tc, .slice n_sA n.shops.length n_sc] 25)).alloc (.cells #[.slice c_gA c.gauges.length c_gc, .int .i64 c.size, .int .i64 c.load, .slice c_bA c.brakes.length c_bc, .slice c_hA c.heats.length c_hc, .bool c.hooks] 28)).heap[w.heap.size + 1]? = some (.cells #[.slice c_gA c.gauges.length c_gc, .int .i64 c.size, .int .i64 c.load, .slice c_bA c.brakes.length c_bc, .slice c_hA c.heats.length c_hc, .bool c.hooks] 28 (0, 0))) := by
    have := heap_alloc_new (w.alloc (.cells #[.int .i64 n.stops, .slice n_tA n.tracks.length n_tc, .slice n_sA n.shops.length n_sc] 25)) (.cells #[.slice c_gA c.gauges.length c_gc, .int .i64 c.size, .int .i64 c.load, .slice c_bA c.brakes.length c_bc, .slice c_hA c.heats.length c_hc, .bool c.hooks] 28)
    show _ = _
    simpa using this
  by_cases e1 : Pl.printed n c fr g way = 0
  · have hN : Hid (changesVal n c fr g way = (if (Pl.along n c (fr, g) way 0 0).2.2 = 0 then .tuple #[.int .i64 (Pl.along n c (fr, g) way 0 0).1, .int .i64 0] else .tuple #[.int .i64 0, .int .i64 9])) := by show _ = _; rw [changesVal, if_pos e1]
    obtain ⟨_, hway⟩ := printed_ok e1
    have Hway := Lib.hid hway; clear hway
    go_enter Tryz.func15, Tryz.ntmps15
    go_wp2_with fail
    refine (printed_any n n_tA n_sA n_tc n_sc c c_gA c_bA c_hA c_gc c_bc c_hc fr g wA wc way _ (by simpa using Hn.out) (by simpa using Hr.out) (by simpa using Hw.out) hwl).mono ?_
    rintro e w1 ⟨rfl, hb⟩
    have m0 := Lib.hid (blk_below HM0.out hb (by simp; omega)); have m1 := Lib.hid (blk_below HM1.out hb (by simp))
    have x0 : w1.cell? ⟨w.heap.size + 1, 0, none⟩ = some (.slice c_gA c.gauges.length c_gc) := blk_cell m1.out 0
    have x1 : w1.cell? ⟨w.heap.size + 1, 1, none⟩ = some (.int .i64 c.size) := blk_cell m1.out 1
    have x2 : w1.cell? ⟨w.heap.size + 1, 2, none⟩ = some (.int .i64 c.load) := blk_cell m1.out 2
    have x3 : w1.cell? ⟨w.heap.size + 1, 3, none⟩ = some (.slice c_bA c.brakes.length c_bc) := blk_cell m1.out 3
    have x4 : w1.cell? ⟨w.heap.size + 1, 4, none⟩ = some (.slice c_hA c.heats.length c_hc) := blk_cell m1.out 4
    have x5 : w1.cell? ⟨w.heap.size + 1, 5, none⟩ = some (.bool c.hooks) := blk_cell m1.out 5
    have hsz := hb.size
    have HW := Lib.hid ((HB2.out (.cells #[.int .i64 n.stops, .slice n_tA n.tracks.length n_tc, .slice n_sA n.shops.length n_sc] 25) (.cells #[.slice c_gA c.gauges.length c_gc, .int .i64 c.size, .int .i64 c.load, .slice c_bA c.brakes.length c_bc, .slice c_hA c.heats.length c_hc, .bool c.hooks] 28)).trans (hb.mono (by simp; omega)))
    have Hcar := Lib.hid (car_made w1 c c_gA c_bA c_hA c_gc c_bc c_hc n n_tA n_sA n_tc n_sc m0.out)
    have hs1 : w.heap.size + 1 + 1 ≤ w1.heap.size := by simpa using hsz
    have HB3 := Lib.hid ((HW.out).alloc (by omega) (.cells (#[.slice c_gA c.gauges.length c_gc, .int .i64 c.size, .int .i64 c.load, .slice c_bA c.brakes.length c_bc, .slice c_hA c.heats.length c_hc, .bool c.hooks] ++ #[.pointer (some ⟨w.heap.size, 0, none⟩), .slice none 0 0]) 58))
    have Hn3 := Lib.hid ((Hn.out.below (by simpa using hb)).more hs1)
    have Hr3 := Lib.hid ((Hr.out.below (by simpa using hb)).more hs1)
    have Hw3 := Lib.hid ((Hw.out.below (by simpa using hb)).more hs1)
    clear hb hsz
    go_wp2_with fail
    refine (along_any w1.heap.size w.heap.size c c_gA c_bA c_hA c_gc c_bc c_hc n n_tA n_sA n_tc n_sc (fr, g) wA wc way Hway.out _ Hcar.out ((Hr3.out.alloc (Nat.le_refl _) _).more (by simp)) ((Hn3.out.alloc (Nat.le_refl _) _).more (by simp)) ((Hw3.out.alloc (Nat.le_refl _) _).more (by simp)) hwl).mono ?_
    rintro e w2 ⟨rfl, hb2⟩
    have HW2 := Lib.hid (HB3.out.trans (hb2.mono (by simp; omega)))
    clear hb2
    simp only [alongVal]
    by_cases hz : (Pl.along n c (fr, g) way 0 0).2.2 = 0
    · have hN2 : Hid (changesVal n c fr g way = .tuple #[.int .i64 (Pl.along n c (fr, g) way 0 0).1, .int .i64 0]) := by show _ = _; rw [hN.out, if_pos hz]
      rw [hz]
      clear hz
      go_wp2_with fail
      go_ret2
      exact ⟨by rw [hN2.out]; rfl, HW2.out⟩
    · have hN2 : Hid (changesVal n c fr g way = .tuple #[.int .i64 0, .int .i64 9]) := by show _ = _; rw [hN.out, if_neg hz]
      have hz1 : ((Pl.along n c (fr, g) way 0 0).2.2 != 0) = true := by rw [bne_iff_ne]; exact hz
      clear hz
      go_wp2_with fail
      go_ret2
      exact ⟨by rw [hN2.out]; rfl, HW2.out⟩
  · have hN : Hid (changesVal n c fr g way = .tuple #[.int .i64 0, .int .i64 (Pl.printed n c fr g way)]) := by show _ = _; rw [changesVal, if_neg e1]
    have hq : (Pl.printed n c fr g way != 0) = true := by rw [bne_iff_ne]; exact e1
    clear e1
    go_enter Tryz.func15, Tryz.ntmps15
    go_wp2_with fail
    refine (printed_any n n_tA n_sA n_tc n_sc c c_gA c_bA c_hA c_gc c_bc c_hc fr g wA wc way _ (by simpa using Hn.out) (by simpa using Hr.out) (by simpa using Hw.out) hwl).mono ?_
    rintro e w1 ⟨rfl, hb⟩
    have HW := Lib.hid ((HB2.out (.cells #[.int .i64 n.stops, .slice n_tA n.tracks.length n_tc, .slice n_sA n.shops.length n_sc] 25) (.cells #[.slice c_gA c.gauges.length c_gc, .int .i64 c.size, .int .i64 c.load, .slice c_bA c.brakes.length c_bc, .slice c_hA c.heats.length c_hc, .bool c.hooks] 28)).trans (hb.mono (by simp; omega)))
    clear hb
    go_wp2_with fail
    go_ret2
    exact ⟨by rw [hN.out]; rfl, HW.out⟩
end Go.Proofs.YtpbjpochjagicaaGreatDoorRR

namespace Go.Proofs.YtpbjpochjagicaaGreatDoorRR
open Go.RowKit

theorem places_blocks : places = Pl.blockAt 0 ++ (Pl.blockAt 1 ++ (Pl.blockAt 2 ++ (Pl.blockAt 3 ++ (Pl.blockAt 4 ++ Pl.blockAt 5)))) := by decide
theorem trk_in {n : Pl.Nt} (h : Pl.check n = 0) {i : Nat} (hi : i < n.tracks.length) : TrkOk n.stops (n.tracks.getD i default) := by
  have e : n.tracks.getD i default = n.tracks[i] := by simp [List.getD_eq_getElem?_getD, List.getElem?_eq_getElem hi]
  rw [e]
  exact (check_tracks h).2 _ (List.getElem_mem hi)
theorem km_pos {n : Pl.Nt} (h : Pl.check n = 0) : ∀ i, i < n.tracks.length → 0 ≤ (n.tracks.getD i default).km := fun i hi => by
  have := (trk_in h hi).km0
  omega
theorem asked_good {n : Pl.Nt} {c : Pl.Cch} {fr g ds : Int} (h : Pl.asked n c fr g ds = 0) : Pl.check n = 0 ∧ Pl.fits c = 0 ∧ 0 ≤ fr ∧ fr ≤ n.stops - 1 ∧ g ∈ c.gauges ∧ 0 ≤ ds ∧ ds ≤ n.stops - 1 := by
  obtain ⟨hq, ho⟩ := asked_q h
  obtain ⟨hb, hf, hg⟩ := question_b hq
  obtain ⟨h1, h2⟩ := both_check hb
  have := out_false ho
  have := out_false hf
  exact ⟨h1, h2, by omega, by omega, hg, by omega, by omega⟩
theorem found_max {n : Pl.Nt} {c : Pl.Cch} {fr g ds : Int} (h : Pl.asked n c fr g ds = 0) : (Pl.found n c fr g ds).length ≤ tripMax := by
  obtain ⟨h1, h2, f0, f1, hg, _, _⟩ := asked_good h
  refine Nat.le_trans (Pl.found_le (n := n) (c := c) (fr := fr) (g := g) ?_ ?_ (check_tracks h1).1) (by decide)
  · rw [← places_blocks]
    exact (way_in (c' := c) h).close
  · rw [← places_blocks]
    exact start_in h
theorem wayok_any (n : Pl.Nt) (n_tA n_sA : Option Addr) (n_tc n_sc : Nat) (c : Pl.Cch) (c_gA c_bA c_hA : Option Addr) (c_gc c_bc c_hc : Nat) (fr g ds : Int) (w : World) (hn : NReads w w.heap.size n n_tA n_sA n_tc n_sc) (hr : CReads w w.heap.size c c_gA c_bA c_hA c_gc c_bc c_hc) (hA : Pl.asked n c fr g ds = 0) :
    Calls Tryz.prog 13 #[.agg #[.int .i64 n.stops, .slice n_tA n.tracks.length n_tc, .slice n_sA n.shops.length n_sc], .agg #[.slice c_gA c.gauges.length c_gc, .int .i64 c.size, .int .i64 c.load, .slice c_bA c.brakes.length c_bc, .slice c_hA c.heats.length c_hc, .bool c.hooks], .int .i64 fr, .int .i64 g, .int .i64 ds] w (WayPost 0 (Pl.way n c fr g ds) w) := by
  have h := way_any n n_tA n_sA n_tc n_sc c c_gA c_bA c_hA c_gc c_bc c_hc fr g ds w hn hr (found_max hA)
  rw [hA] at h
  exact h
end Go.Proofs.YtpbjpochjagicaaGreatDoorRR
