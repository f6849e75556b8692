/- Walks: questions asked; ways that are printed; First, Bars. -/
import Derived.Test.YtpbjpochjagicaaGreatDoorRRW8
namespace Go.Proofs.YtpbjpochjagicaaGreatDoorRR
open Go.RowKit

theorem car_made (w : World) (c : Pl.Cch) (c_gA c_bA c_hA : Option Addr) (c_gc c_bc c_hc : Nat) (n : Pl.Nt) (n_tA n_sA : Option Addr) (n_tc n_sc : Nat) {N : Nat} (hN : w.heap[N]? = some (.cells #[.int .i64 n.stops, .slice n_tA n.tracks.length n_tc, .slice n_sA n.shops.length n_sc] 25 (0, 0))) :
    CarAt (w.alloc (.cells (#[.slice c_gA c.gauges.length c_gc, .int .i64 c.size, .int .i64 c.load, .slice c_bA c.brakes.length c_bc, .slice c_hA c.heats.length c_hc, .bool c.hooks] ++ #[.pointer (some ⟨N, 0, none⟩), .slice none 0 0]) 58)) w.heap.size N c c_gA c_bA c_hA c_gc c_bc c_hc n n_tA n_sA n_tc n_sc none 0 0 :=
  ⟨⟨#[], 58, by simpa using heap_alloc_new w _⟩, blk_alloc hN _⟩

theorem asked_q {n : Pl.Nt} {c : Pl.Cch} {fr g ds : Int} (h : Pl.asked n c fr g ds = 0) : Pl.question n c fr g = 0 ∧ Pl.out ds 0 (n.stops - 1) = false := by
  by_cases h1 : Pl.question n c fr g = 0
  · refine ⟨h1, ?_⟩
    cases ho : Pl.out ds 0 (n.stops - 1)
    · rfl
    · simp [Pl.asked, h1, ho] at h
  · rw [Pl.asked, if_pos h1] at h; exact absurd h h1
theorem question_b {n : Pl.Nt} {c : Pl.Cch} {fr g : Int} (h : Pl.question n c fr g = 0) : Pl.both n c = 0 ∧ Pl.out fr 0 (n.stops - 1) = false ∧ g ∈ c.gauges := by
  by_cases h1 : Pl.both n c = 0
  · refine ⟨h1, ?_⟩
    rw [Pl.question, if_neg (by simp [h1])] at h
    cases ho : Pl.out fr 0 (n.stops - 1)
    · refine ⟨rfl, ?_⟩
      by_cases hg : g ∈ c.gauges
      · exact hg
      · simp [ho, hg] at h
    · simp [ho] at h
  · rw [Pl.question, if_pos h1] at h; exact absurd h h1

def AskedPost (w : World) (c : Pl.Cch) (c_gA c_bA c_hA : Option Addr) (c_gc c_bc c_hc : Nat) (n : Pl.Nt) (n_tA n_sA : Option Addr) (n_tc n_sc : Nat) (fr g : Int) (e : Ending) (w' : World) : Prop :=
  ∃ X N, e = .returned (.tuple #[.pointer (some ⟨X, 0, none⟩), .agg #[.int .i64 fr, .int .i64 g], .int .i64 0]) ∧ CarAt w' X N c c_gA c_bA c_hA c_gc c_bc c_hc n n_tA n_sA n_tc n_sc none 0 0 ∧ w.heap.size ≤ X ∧ w.heap.size ≤ N ∧ Below w.heap.size w w'

set_option maxHeartbeats 1000000 in
theorem asked_no (n : Pl.Nt) (n_tA n_sA : Option Addr) (n_tc n_sc : Nat) (c : Pl.Cch) (c_gA c_bA c_hA : Option Addr) (c_gc c_bc c_hc : Nat) (fr g ds : Int) (w : World) (hn : NReads w w.heap.size n n_tA n_sA n_tc n_sc) (hr : CReads w w.heap.size c c_gA c_bA c_hA c_gc c_bc c_hc) (hA : Pl.asked n c fr g ds ≠ 0) :
    Calls Tryz.prog 30 #[.agg #[.int .i64 n.stops, .slice n_tA n.tracks.length n_tc, .slice n_sA n.shops.length n_sc], .agg #[.slice c_gA c.gauges.length c_gc, .int .i64 c.size, .int .i64 c.load, .slice c_bA c.brakes.length c_bc, .slice c_hA c.heats.length c_hc, .bool c.hooks], .int .i64 fr, .int .i64 g, .int .i64 ds] w fun e w' => e = .returned (.tuple #[.pointer none, .agg #[.int .i64 0, .int .i64 0], .int .i64 (Pl.asked n c fr g ds)]) ∧ Below w.heap.size w w' := by
  have hb3 : ∀ (o1 o2 o3 : Obj), Below w.heap.size w (((w.alloc o1).alloc o2).alloc o3) := fun o1 o2 o3 => (((Below.refl _ _).alloc (Nat.le_refl _) _).alloc (by simp) _).alloc (by simp; omega) _
  have Hn := Lib.hid (((hn.below (hb3 (.cells #[.int .i64 n.stops, .slice n_tA n.tracks.length n_tc, .slice n_sA n.shops.length n_sc] 25) (.cells #[.slice c_gA c.gauges.length c_gc, .int .i64 c.size, .int .i64 c.load, .slice c_bA c.brakes.length c_bc, .slice c_hA c.heats.length c_hc, .bool c.hooks] 28) (.cells #[.int .i64 0, .int .i64 0] 64)))).more (B' := w.heap.size + 1 + 1 + 1) (by omega))
  have Hr := Lib.hid (((hr.below (hb3 (.cells #[.int .i64 n.stops, .slice n_tA n.tracks.length n_tc, .slice n_sA n.shops.length n_sc] 25) (.cells #[.slice c_gA c.gauges.length c_gc, .int .i64 c.size, .int .i64 c.load, .slice c_bA c.brakes.length c_bc, .slice c_hA c.heats.length c_hc, .bool c.hooks] 28) (.cells #[.int .i64 0, .int .i64 0] 64)))).more (B' := w.heap.size + 1 + 1 + 1) (by omega))
  have HB3 := Lib.hid hb3; clear hb3 hn hr
  have hmid := mid_blk w #[.int .i64 n.stops, .slice n_tA n.tracks.length n_tc, .slice n_sA n.shops.length n_sc] #[.slice c_gA c.gauges.length c_gc, .int .i64 c.size, .int .i64 c.load, .slice c_bA c.brakes.length c_bc, .slice c_hA c.heats.length c_hc, .bool c.hooks] #[.int .i64 0, .int .i64 0] 25 28 64
  obtain ⟨M1, M0, M2⟩ := hmid
  have HM0 := Lib.hid M0; have HM1 := Lib.hid M1; have HM2 := Lib.hid M2; clear M0 M1 M2
  by_cases e1 : Pl.question n c fr g = 0
  · have hst := check_stops (both_check (question_b e1).1).1
    obtain ⟨hlo, hhi⟩ := hst
    have o1 : Pl.out ds 0 (n.stops - 1) = true := by
      cases ho : Pl.out ds 0 (n.stops - 1)
      · exact absurd (by simp [Pl.asked, e1, ho]) hA
      · rfl
    have hN : Hid (Pl.asked n c fr g ds = 3) := by show _ = _; simp [Pl.asked, e1, o1]
    clear hA
    go_enter Tryz.func30, Tryz.ntmps30
    go_wp2_with fail
    refine (question_any n n_tA n_sA n_tc n_sc c c_gA c_bA c_hA c_gc c_bc c_hc fr g _ (by simpa using Hn.out) (by simpa using Hr.out)).mono ?_
    rintro e w1 ⟨rfl, hb⟩
    have m0 := Lib.hid (blk_below HM0.out hb (by simp; omega)); have m1 := Lib.hid (blk_below HM1.out hb (by simp)); have m2 := Lib.hid (blk_below HM2.out hb (by simp))
    have z0 : w1.cell? ⟨w.heap.size, 0, none⟩ = some (.int .i64 n.stops) := blk_cell m0.out 0
    have y0 : w1.cell? ⟨w.heap.size + 1 + 1, 0, none⟩ = some (.int .i64 0) := blk_cell m2.out 0
    have y1 : w1.cell? ⟨w.heap.size + 1 + 1, 1, none⟩ = some (.int .i64 0) := blk_cell m2.out 1
    have f0 : w1.frozen? ⟨w.heap.size + 1 + 1, 0, none⟩ = false := blk_frozen m2.out 0
    have f1 : w1.frozen? ⟨w.heap.size + 1 + 1, 1, none⟩ = false := blk_frozen m2.out 1
    have HW := Lib.hid ((HB3.out (.cells #[.int .i64 n.stops, .slice n_tA n.tracks.length n_tc, .slice n_sA n.shops.length n_sc] 25) (.cells #[.slice c_gA c.gauges.length c_gc, .int .i64 c.size, .int .i64 c.load, .slice c_bA c.brakes.length c_bc, .slice c_hA c.heats.length c_hc, .bool c.hooks] 28) (.cells #[.int .i64 0, .int .i64 0] 64)).trans (hb.mono (by simp; omega)))
    clear hb
    go_wp2_with (first | (go_at_call 22; refine (out_any _ _ _ _).mono ?_; rintro e w' ⟨rfl, rfl⟩))
    refine bodyPost_ret (v := .tuple #[.pointer none, .agg #[.int .i64 0, .int .i64 0], .int .i64 3]) (by simp [results, Tryz.results30, go_sem, y0, y1]) rfl ⟨by rw [hN.out], ?_⟩
    (repeat (first | exact HW.out | refine Below.setCell ?_ (by simp; omega) _ | refine below_drewN ?_ _))
  · have hN : Hid (Pl.asked n c fr g ds = Pl.question n c fr g) := by show _ = _; rw [Pl.asked, if_pos e1]
    have hb2 : (Pl.question n c fr g != 0) = true := by rw [bne_iff_ne]; exact e1
    clear e1 hA
    go_enter Tryz.func30, Tryz.ntmps30
    go_wp2_with fail
    refine (question_any n n_tA n_sA n_tc n_sc c c_gA c_bA c_hA c_gc c_bc c_hc fr g _ (by simpa using Hn.out) (by simpa using Hr.out)).mono ?_
    rintro e w1 ⟨rfl, hb⟩
    have m2 := Lib.hid (blk_below HM2.out hb (by simp))
    have y0 : w1.cell? ⟨w.heap.size + 1 + 1, 0, none⟩ = some (.int .i64 0) := blk_cell m2.out 0
    have y1 : w1.cell? ⟨w.heap.size + 1 + 1, 1, none⟩ = some (.int .i64 0) := blk_cell m2.out 1
    have f0 : w1.frozen? ⟨w.heap.size + 1 + 1, 0, none⟩ = false := blk_frozen m2.out 0
    have f1 : w1.frozen? ⟨w.heap.size + 1 + 1, 1, none⟩ = false := blk_frozen m2.out 1
    have HW := Lib.hid ((HB3.out (.cells #[.int .i64 n.stops, .slice n_tA n.tracks.length n_tc, .slice n_sA n.shops.length n_sc] 25) (.cells #[.slice c_gA c.gauges.length c_gc, .int .i64 c.size, .int .i64 c.load, .slice c_bA c.brakes.length c_bc, .slice c_hA c.heats.length c_hc, .bool c.hooks] 28) (.cells #[.int .i64 0, .int .i64 0] 64)).trans (hb.mono (by simp; omega)))
    clear hb
    go_wp2_with fail
    refine bodyPost_ret (v := .tuple #[.pointer none, .agg #[.int .i64 0, .int .i64 0], .int .i64 (Pl.question n c fr g)]) (by simp [results, Tryz.results30, go_sem, y0, y1]) rfl ⟨by rw [hN.out], ?_⟩
    (repeat (first | exact HW.out | refine Below.setCell ?_ (by simp; omega) _ | refine below_drewN ?_ _))

set_option maxHeartbeats 1000000 in
theorem asked_yes (n : Pl.Nt) (n_tA n_sA : Option Addr) (n_tc n_sc : Nat) (c : Pl.Cch) (c_gA c_bA c_hA : Option Addr) (c_gc c_bc c_hc : Nat) (fr g ds : Int) (w : World) (hn : NReads w w.heap.size n n_tA n_sA n_tc n_sc) (hr : CReads w w.heap.size c c_gA c_bA c_hA c_gc c_bc c_hc) (hA : Pl.asked n c fr g ds = 0) :
    Calls Tryz.prog 30 #[.agg #[.int .i64 n.stops, .slice n_tA n.tracks.length n_tc, .slice n_sA n.shops.length n_sc], .agg #[.slice c_gA c.gauges.length c_gc, .int .i64 c.size, .int .i64 c.load, .slice c_bA c.brakes.length c_bc, .slice c_hA c.heats.length c_hc, .bool c.hooks], .int .i64 fr, .int .i64 g, .int .i64 ds] w (AskedPost w c c_gA c_bA c_hA c_gc c_bc c_hc n n_tA n_sA n_tc n_sc fr g) := by
  have hb3 : ∀ (o1 o2 o3 : Obj), Below w.heap.size w (((w.alloc o1).alloc o2).alloc o3) := fun o1 o2 o3 => (((Below.refl _ _).alloc (Nat.le_refl _) _).alloc (by simp) _).alloc (by simp; omega) _
  have Hn := Lib.hid (((hn.below (hb3 (.cells #[.int .i64 n.stops, .slice n_tA n.tracks.length n_tc, .slice n_sA n.shops.length n_sc] 25) (.cells #[.slice c_gA c.gauges.length c_gc, .int .i64 c.size, .int .i64 c.load, .slice c_bA c.brakes.length c_bc, .slice c_hA c.heats.length c_hc, .bool c.hooks] 28) (.cells #[.int .i64 0, .int .i64 0] 64)))).more (B' := w.heap.size + 1 + 1 + 1) (by omega))
  have Hr := Lib.hid (((hr.below (hb3 (.cells #[.int .i64 n.stops, .slice n_tA n.tracks.length n_tc, .slice n_sA n.shops.length n_sc] 25) (.cells #[.slice c_gA c.gauges.length c_gc, .int .i64 c.size, .int .i64 c.load, .slice c_bA c.brakes.length c_bc, .slice c_hA c.heats.length c_hc, .bool c.hooks] 28) (.cells #[.int .i64 0, .int .i64 0] 64)))).more (B' := w.heap.size + 1 + 1 + 1) (by omega))
  have HB3 := Lib.hid hb3; clear hb3 hn hr
  have hmid := mid_blk w #[.int .i64 n.stops, .slice n_tA n.tracks.length n_tc, .slice n_sA n.shops.length n_sc] #[.slice c_gA c.gauges.length c_gc, .int .i64 c.size, .int .i64 c.load, .slice c_bA c.brakes.length c_bc, .slice c_hA c.heats.length c_hc, .bool c.hooks] #[.int .i64 0, .int .i64 0] 25 28 64
  obtain ⟨M1, M0, M2⟩ := hmid
  have HM0 := Lib.hid M0; have HM1 := Lib.hid M1; have HM2 := Lib.hid M2; clear M0 M1 M2
  obtain ⟨e1, o1⟩ := asked_q hA
  have hst := check_stops (both_check (question_b e1).1).1
  obtain ⟨hlo, hhi⟩ := hst
  clear hA
  go_enter Tryz.func30, Tryz.ntmps30
  go_wp2_with fail
  refine (question_any n n_tA n_sA n_tc n_sc c c_gA c_bA c_hA c_gc c_bc c_hc fr g _ (by simpa using Hn.out) (by simpa using Hr.out)).mono ?_
  rintro e w1 ⟨rfl, hb⟩
  have m0 := Lib.hid (blk_below HM0.out hb (by simp; omega)); have m1 := Lib.hid (blk_below HM1.out hb (by simp)); have m2 := Lib.hid (blk_below HM2.out hb (by simp))
  have z0 : w1.cell? ⟨w.heap.size, 0, none⟩ = some (.int .i64 n.stops) := blk_cell m0.out 0
  have x0 : w1.cell? ⟨w.heap.size + 1, 0, none⟩ = some (.slice c_gA c.gauges.length c_gc) := blk_cell m1.out 0
  have x1 : w1.cell? ⟨w.heap.size + 1, 1, none⟩ = some (.int .i64 c.size) := blk_cell m1.out 1
  have x2 : w1.cell? ⟨w.heap.size + 1, 2, none⟩ = some (.int .i64 c.load) := blk_cell m1.out 2
  have x3 : w1.cell? ⟨w.heap.size + 1, 3, none⟩ = some (.slice c_bA c.brakes.length c_bc) := blk_cell m1.out 3
  have x4 : w1.cell? ⟨w.heap.size + 1, 4, none⟩ = some (.slice c_hA c.heats.length c_hc) := blk_cell m1.out 4
  have x5 : w1.cell? ⟨w.heap.size + 1, 5, none⟩ = some (.bool c.hooks) := blk_cell m1.out 5
  have y0 : w1.cell? ⟨w.heap.size + 1 + 1, 0, none⟩ = some (.int .i64 0) := blk_cell m2.out 0
  have y1 : w1.cell? ⟨w.heap.size + 1 + 1, 1, none⟩ = some (.int .i64 0) := blk_cell m2.out 1
  have f0 : w1.frozen? ⟨w.heap.size + 1 + 1, 0, none⟩ = false := blk_frozen m2.out 0
  have f1 : w1.frozen? ⟨w.heap.size + 1 + 1, 1, none⟩ = false := blk_frozen m2.out 1
  have hz : w.heap.size + 1 + 1 < w1.heap.size := lt_of_block m2.out
  have HW := Lib.hid ((HB3.out (.cells #[.int .i64 n.stops, .slice n_tA n.tracks.length n_tc, .slice n_sA n.shops.length n_sc] 25) (.cells #[.slice c_gA c.gauges.length c_gc, .int .i64 c.size, .int .i64 c.load, .slice c_bA c.brakes.length c_bc, .slice c_hA c.heats.length c_hc, .bool c.hooks] 28) (.cells #[.int .i64 0, .int .i64 0] 64)).trans (hb.mono (by simp; omega)))
  clear hb
  go_wp2_with (first | (go_at_call 22; refine (out_any _ _ _ _).mono ?_; rintro e w' ⟨rfl, rfl⟩))
  refine bodyPost_ret (v := .tuple #[.pointer (some ⟨w1.heap.size, 0, none⟩), .agg #[.int .i64 fr, .int .i64 g], .int .i64 0]) (by simp [results, Tryz.results30, go_sem, y0, y1, hz]) rfl ?_
  have hX := car_made ((w1.setCell ⟨w.heap.size + 1 + 1, 0, none⟩ (.int .i64 fr)).setCell ⟨w.heap.size + 1 + 1, 1, none⟩ (.int .i64 g)) c c_gA c_bA c_hA c_gc c_bc c_hc n n_tA n_sA n_tc n_sc (N := w.heap.size)
    (by rw [Below.heap_setCell _ _ _ _ (by simp; omega), Below.heap_setCell _ _ _ _ (by simp; omega)]; exact m0.out)
  rw [size_setCell, size_setCell] at hX
  exact ⟨w1.heap.size, w.heap.size, rfl, hX, by omega, Nat.le_refl _, ((HW.out.setCell (by simp; omega) _).setCell (by simp; omega) _).alloc (by rw [size_setCell, size_setCell]; omega) _⟩

theorem unknown_drop {m : Nat} {way : List Int} {k : Nat} (hk : k < way.length) : Pl.unknownIn m (way.drop k) = (Pl.out way[k] 0 ((m : Int) - 1) || Pl.unknownIn m (way.drop (k + 1))) := by
  rw [List.drop_eq_getElem_cons hk]; rfl

set_option maxHeartbeats 2000000 in
theorem printed_any (n : Pl.Nt) (n_tA n_sA : Option Addr) (n_tc n_sc : Nat) (c : Pl.Cch) (c_gA c_bA c_hA : Option Addr) (c_gc c_bc c_hc : Nat) (fr g : Int) (wA : Option Addr) (wc : Nat) (way : List Int) (w : World) (hn : NReads w w.heap.size n n_tA n_sA n_tc n_sc) (hr : CReads w w.heap.size c c_gA c_bA c_hA c_gc c_bc c_hc) (hw : Ints w w.heap.size wA way) (hwl : way.length ≤ 140737488355328) :
    Calls Tryz.prog 36 #[.agg #[.int .i64 n.stops, .slice n_tA n.tracks.length n_tc, .slice n_sA n.shops.length n_sc], .agg #[.slice c_gA c.gauges.length c_gc, .int .i64 c.size, .int .i64 c.load, .slice c_bA c.brakes.length c_bc, .slice c_hA c.heats.length c_hc, .bool c.hooks], .int .i64 fr, .int .i64 g, .slice wA way.length wc] w fun e w' => e = .returned (.int .i64 (Pl.printed n c fr g way)) ∧ Below w.heap.size w w' := by
  have hb2 : ∀ (o1 o2 : Obj), Below w.heap.size w ((w.alloc o1).alloc o2) := fun o1 o2 => ((Below.refl _ _).alloc (Nat.le_refl _) _).alloc (by simp) _
  have Hn := Lib.hid (((hn.below (hb2 (.cells #[.int .i64 n.stops, .slice n_tA n.tracks.length n_tc, .slice n_sA n.shops.length n_sc] 25) (.cells #[.slice c_gA c.gauges.length c_gc, .int .i64 c.size, .int .i64 c.load, .slice c_bA c.brakes.length c_bc, .slice c_hA c.heats.length c_hc, .bool c.hooks] 28)))).more (B' := w.heap.size + 1 + 1) (by omega))
  have Hr := Lib.hid (((hr.below (hb2 (.cells #[.int .i64 n.stops, .slice n_tA n.tracks.length n_tc, .slice n_sA n.shops.length n_sc] 25) (.cells #[.slice c_gA c.gauges.length c_gc, .int .i64 c.size, .int .i64 c.load, .slice c_bA c.brakes.length c_bc, .slice c_hA c.heats.length c_hc, .bool c.hooks] 28)))).more (B' := w.heap.size + 1 + 1) (by omega))
  have hlT := hn.lenT
  have HB2 := Lib.hid hb2; clear hb2 hn hr
  have HM0 : Hid (((w.alloc (.cells #[.int .i64 n.stops, .slice n_tA n.tracks.length n_tc, .slice n_sA n.shops.length n_sc] 25)).alloc (.cells #[.slice c_gA c.gauges.length c_gc, .int .i64 c.size, .int .i64 c.load, .slice c_bA c.brakes.length c_bc, .slice c_hA c.heats.length c_hc, .bool c.hooks] 28)).heap[w.heap.size]? = some (.cells #[.int .i64 n.stops, .slice n_tA n.tracks.length n_tc, .slice n_sA n.shops.length n_sc] 25 (0, 0))) := blk_alloc (heap_alloc_new w _) _
  have hwl0 := hwl
  by_cases e1 : Pl.question n c fr g = 0
  · have hR0 : Hid (Pl.printed n c fr g way = if Pl.unknownIn n.tracks.length way = true then 3 else 0) := by show _ = _; simp [Pl.printed, e1]
    rcases hw.form with rfl | ⟨b, off, rfl, hbw, hcell⟩
    · clear hw
      go_enter Tryz.func36, Tryz.ntmps36
      go_wp2_with fail
      refine (question_any n n_tA n_sA n_tc n_sc c c_gA c_bA c_hA c_gc c_bc c_hc fr g _ (by simpa using Hn.out) (by simpa using Hr.out)).mono ?_
      rintro e w1 ⟨rfl, hb⟩
      have HW := Lib.hid ((HB2.out (.cells #[.int .i64 n.stops, .slice n_tA n.tracks.length n_tc, .slice n_sA n.shops.length n_sc] 25) (.cells #[.slice c_gA c.gauges.length c_gc, .int .i64 c.size, .int .i64 c.load, .slice c_bA c.brakes.length c_bc, .slice c_hA c.heats.length c_hc, .bool c.hooks] 28)).trans (hb.mono (by simp; omega)))
      clear hb
      go_wp2_with fail
      go_loop [24] (fun i => i = .int .i64 0) (fun _ => 0)
      case atStart => rfl
      case round =>
        obtain rfl := hrel
        go_wp2
        go_ret
        exact ⟨by rw [hR0.out]; rfl, HW.out⟩
    · clear hw
      go_enter Tryz.func36, Tryz.ntmps36
      go_wp2_with fail
      refine (question_any n n_tA n_sA n_tc n_sc c c_gA c_bA c_hA c_gc c_bc c_hc fr g _ (by simpa using Hn.out) (by simpa using Hr.out)).mono ?_
      rintro e w1 ⟨rfl, hb⟩
      have m0 := Lib.hid (blk_below HM0.out hb (by simp; omega))
      have z1 : w1.cell? ⟨w.heap.size, 1, none⟩ = some (.slice n_tA n.tracks.length n_tc) := blk_cell m0.out 1
      have HW := Lib.hid ((HB2.out (.cells #[.int .i64 n.stops, .slice n_tA n.tracks.length n_tc, .slice n_sA n.shops.length n_sc] 25) (.cells #[.slice c_gA c.gauges.length c_gc, .int .i64 c.size, .int .i64 c.load, .slice c_bA c.brakes.length c_bc, .slice c_hA c.heats.length c_hc, .bool c.hooks] 28)).trans (hb.mono (by simp; omega)))
      have hcell1 : ∀ k (hk : k < way.length), w1.cell? ⟨b, off + k, none⟩ = some (.int .i64 way[k]) := fun k hk => (HW.out.cell (p := ⟨b, off + k, none⟩) hbw).trans (hcell k hk)
      clear hb hcell
      go_wp2_with fail
      go_loop [24] (fun i => ∃ k : Nat, k ≤ way.length ∧ i = .int .i64 k ∧ Hid (Pl.unknownIn n.tracks.length way = Pl.unknownIn n.tracks.length (way.drop k))) (fun i => way.length - (intOf i).toNat)
      case atStart => exact ⟨0, Nat.zero_le _, rfl, rfl⟩
      case round =>
        obtain ⟨k, hk, rfl, hRk⟩ := hrel
        by_cases hlt : k < way.length
        · have hck := hcell1 k hlt
          have hst := unknown_drop (m := n.tracks.length) hlt
          clear hcell1
          cases ho : Pl.out way[k] 0 ((n.tracks.length : Int) - 1)
          · have hN : Hid (Pl.unknownIn n.tracks.length way = Pl.unknownIn n.tracks.length (way.drop (k + 1))) := by show _ = _; rw [hRk.out, hst, ho]; rfl
            clear hst hRk
            go_wp2_with (go_at_call 22; refine (out_any _ _ _ _).mono ?_; rintro e w' ⟨rfl, rfl⟩)
            go_round
            case rel => exact ⟨k + 1, by omega, by go_num, hN⟩
            case measure => simp [intOf]; omega
          · have hN : Hid (Pl.printed n c fr g way = 3) := by show _ = _; rw [hR0.out, hRk.out, hst, ho]; rfl
            clear hst hRk
            go_wp2_with (go_at_call 22; refine (out_any _ _ _ _).mono ?_; rintro e w' ⟨rfl, rfl⟩)
            go_ret
            exact ⟨by rw [hN.out]; rfl, HW.out⟩
        · have hN : Hid (Pl.printed n c fr g way = 0) := by show _ = _; rw [hR0.out, hRk.out, List.drop_eq_nil_of_le (by omega)]; rfl
          clear hRk hcell1
          go_wp2
          go_ret
          exact ⟨by rw [hN.out]; rfl, HW.out⟩
  · have hN : Hid (Pl.printed n c fr g way = Pl.question n c fr g) := by show _ = _; rw [Pl.printed, if_pos e1]
    have hq : (Pl.question n c fr g != 0) = true := by rw [bne_iff_ne]; exact e1
    clear e1 hw
    go_enter Tryz.func36, Tryz.ntmps36
    go_wp2_with fail
    refine (question_any n n_tA n_sA n_tc n_sc c c_gA c_bA c_hA c_gc c_bc c_hc fr g _ (by simpa using Hn.out) (by simpa using Hr.out)).mono ?_
    rintro e w1 ⟨rfl, hb⟩
    have HW := Lib.hid ((HB2.out (.cells #[.int .i64 n.stops, .slice n_tA n.tracks.length n_tc, .slice n_sA n.shops.length n_sc] 25) (.cells #[.slice c_gA c.gauges.length c_gc, .int .i64 c.size, .int .i64 c.load, .slice c_bA c.brakes.length c_bc, .slice c_hA c.heats.length c_hc, .bool c.hooks] 28)).trans (hb.mono (by simp; omega)))
    clear hb
    go_wp2_with fail
    go_ret
    exact ⟨by rw [hN.out]; rfl, HW.out⟩

theorem printed_ok {n : Pl.Nt} {c : Pl.Cch} {fr g : Int} {way : List Int} (h : Pl.printed n c fr g way = 0) : Pl.question n c fr g = 0 ∧ ∀ x ∈ way, 0 ≤ x ∧ x < n.tracks.length := by
  by_cases e1 : Pl.question n c fr g = 0
  · refine ⟨e1, fun x hx => ?_⟩
    have hu : Pl.unknownIn n.tracks.length way = false := by
      cases hu : Pl.unknownIn n.tracks.length way
      · rfl
      · simp [Pl.printed, e1, hu] at h
    have := (List.any_eq_false.1 hu) x hx
    simp [Pl.out] at this
    omega
  · rw [Pl.printed, if_pos e1] at h; exact absurd h e1

/-- What First hands back. -/
def firstVal (n : Pl.Nt) (c : Pl.Cch) (fr g : Int) (way : List Int) : Value :=
  if Pl.printed n c fr g way = 0 then .tuple #[.int .i64 (Pl.along n c (fr, g) way 0 0).2.1, .int .i64 (Pl.along n c (fr, g) way 0 0).2.2, .int .i64 0]
  else .tuple #[.int .i64 0, .int .i64 0, .int .i64 (Pl.printed n c fr g way)]

set_option maxHeartbeats 2000000 in
theorem first_any (n : Pl.Nt) (n_tA n_sA : Option Addr) (n_tc n_sc : Nat) (c : Pl.Cch) (c_gA c_bA c_hA : Option Addr) (c_gc c_bc c_hc : Nat) (fr g : Int) (wA : Option Addr) (wc : Nat) (way : List Int) (w : World) (hn : NReads w w.heap.size n n_tA n_sA n_tc n_sc) (hr : CReads w w.heap.size c c_gA c_bA c_hA c_gc c_bc c_hc) (hw : Ints w w.heap.size wA way) (hwl : way.length ≤ 140737488355328) :
    Calls Tryz.prog 14 #[.agg #[.int .i64 n.stops, .slice n_tA n.tracks.length n_tc, .slice n_sA n.shops.length n_sc], .agg #[.slice c_gA c.gauges.length c_gc, .int .i64 c.size, .int .i64 c.load, .slice c_bA c.brakes.length c_bc, .slice c_hA c.heats.length c_hc, .bool c.hooks], .int .i64 fr, .int .i64 g, .slice wA way.length wc] w fun e w' => e = .returned (firstVal n c fr g way) ∧ Below w.heap.size w w' := by
  have hb2 : ∀ (o1 o2 : Obj), Below w.heap.size w ((w.alloc o1).alloc o2) := fun o1 o2 => ((Below.refl _ _).alloc (Nat.le_refl _) _).alloc (by simp) _
  have Hn := Lib.hid (((hn.below (hb2 (.cells #[.int .i64 n.stops, .slice n_tA n.tracks.length n_tc, .slice n_sA n.shops.length n_sc] 25) (.cells #[.slice c_gA c.gauges.length c_gc, .int .i64 c.size, .int .i64 c.load, .slice c_bA c.brakes.length c_bc, .slice c_hA c.heats.length c_hc, .bool c.hooks] 28)))).more (B' := w.heap.size + 1 + 1) (by omega))
  have Hr := Lib.hid (((hr.below (hb2 (.cells #[.int .i64 n.stops, .slice n_tA n.tracks.length n_tc, .slice n_sA n.shops.length n_sc] 25) (.cells #[.slice c_gA c.gauges.length c_gc, .int .i64 c.size, .int .i64 c.load, .slice c_bA c.brakes.length c_bc, .slice c_hA c.heats.length c_hc, .bool c.hooks] 28)))).more (B' := w.heap.size + 1 + 1) (by omega))
  have Hw := Lib.hid (((hw.below (hb2 (.cells #[.int .i64 n.stops, .slice n_tA n.tracks.length n_tc, .slice n_sA n.shops.length n_sc] 25) (.cells #[.slice c_gA c.gauges.length c_gc, .int .i64 c.size, .int .i64 c.load, .slice c_bA c.brakes.length c_bc, .slice c_hA c.heats.length c_hc, .bool c.hooks] 28)))).more (B' := w.heap.size + 1 + 1) (by omega))
  have HB2 := Lib.hid hb2; clear hb2 hn hr hw
  have HM0 : Hid (((w.alloc (.cells #[.int .i64 n.stops, .slice n_tA n.tracks.length n_tc, .slice n_sA n.shops.length n_sc] 25)).alloc (.cells #[.slice c_gA c.gauges.length c_gc, .int .i64 c.size, .int .i64 c.load, .slice c_bA c.brakes.length c_bc, .slice c_hA c.heats.length c_hc, .bool c.hooks] 28)).heap[w.heap.size]? = some (.cells #[.int .i64 n.stops, .slice n_tA n.tracks.length n_tc, .slice n_sA n.shops.length n_sc] 25 (0, 0))) := blk_alloc (heap_alloc_new w _) _
  have HM1 : Hid (((w.alloc (.cells #[.int .i64 n.stops, .slice n_tA n.tracks.length n_tc, .slice n_sA n.shops.length n_sc] 25)).alloc (.cells #[.slice c_gA c.gauges.length c_gc, .int .i64 c.size, .int .i64 c.load, .slice c_bA c.brakes.length c_bc, .slice c_hA c.heats.length c_hc, .bool c.hooks] 28)).heap[w.heap.size + 1]? = some (.cells #[.slice c_gA c.gauges.length c_gc, .int .i64 c.size, .int .i64 c.load, .slice c_bA c.brakes.length c_bc, .slice c_hA c.heats.length c_hc, .bool c.hooks] 28 (0, 0))) := by
    have := heap_alloc_new (w.alloc (.cells #[.int .i64 n.stops, .slice n_tA n.tracks.length n_tc, .slice n_sA n.shops.length n_sc] 25)) (.cells #[.slice c_gA c.gauges.length c_gc, .int .i64 c.size, .int .i64 c.load, .slice c_bA c.brakes.length c_bc, .slice c_hA c.heats.length c_hc, .bool c.hooks] 28)
    show _ = _
    simpa using this
  by_cases e1 : Pl.printed n c fr g way = 0
  · have hN : Hid (firstVal n c fr g way = .tuple #[.int .i64 (Pl.along n c (fr, g) way 0 0).2.1, .int .i64 (Pl.along n c (fr, g) way 0 0).2.2, .int .i64 0]) := by show _ = _; rw [firstVal, if_pos e1]
    obtain ⟨_, hway⟩ := printed_ok e1
    have Hway := Lib.hid hway; clear hway
    go_enter Tryz.func14, Tryz.ntmps14
    go_wp2_with fail
    refine (printed_any n n_tA n_sA n_tc n_sc c c_gA c_bA c_hA c_gc c_bc c_hc fr g wA wc way _ (by simpa using Hn.out) (by simpa using Hr.out) (by simpa using Hw.out) hwl).mono ?_
    rintro e w1 ⟨rfl, hb⟩
    have m0 := Lib.hid (blk_below HM0.out hb (by simp; omega)); have m1 := Lib.hid (blk_below HM1.out hb (by simp))
    have x0 : w1.cell? ⟨w.heap.size + 1, 0, none⟩ = some (.slice c_gA c.gauges.length c_gc) := blk_cell m1.out 0
    have x1 : w1.cell? ⟨w.heap.size + 1, 1, none⟩ = some (.int .i64 c.size) := blk_cell m1.out 1
    have x2 : w1.cell? ⟨w.heap.size + 1, 2, none⟩ = some (.int .i64 c.load) := blk_cell m1.out 2
    have x3 : w1.cell? ⟨w.heap.size + 1, 3, none⟩ = some (.slice c_bA c.brakes.length c_bc) := blk_cell m1.out 3
    have x4 : w1.cell? ⟨w.heap.size + 1, 4, none⟩ = some (.slice c_hA c.heats.length c_hc) := blk_cell m1.out 4
    have x5 : w1.cell? ⟨w.heap.size + 1, 5, none⟩ = some (.bool c.hooks) := blk_cell m1.out 5
    have hsz := hb.size
    have HW := Lib.hid ((HB2.out (.cells #[.int .i64 n.stops, .slice n_tA n.tracks.length n_tc, .slice n_sA n.shops.length n_sc] 25) (.cells #[.slice c_gA c.gauges.length c_gc, .int .i64 c.size, .int .i64 c.load, .slice c_bA c.brakes.length c_bc, .slice c_hA c.heats.length c_hc, .bool c.hooks] 28)).trans (hb.mono (by simp; omega)))
    have Hcar := Lib.hid (car_made w1 c c_gA c_bA c_hA c_gc c_bc c_hc n n_tA n_sA n_tc n_sc m0.out)
    have hs1 : w.heap.size + 1 + 1 ≤ w1.heap.size := by simpa using hsz
    have HB3 := Lib.hid ((HW.out).alloc (by omega) (.cells (#[.slice c_gA c.gauges.length c_gc, .int .i64 c.size, .int .i64 c.load, .slice c_bA c.brakes.length c_bc, .slice c_hA c.heats.length c_hc, .bool c.hooks] ++ #[.pointer (some ⟨w.heap.size, 0, none⟩), .slice none 0 0]) 58))
    have Hn3 := Lib.hid ((Hn.out.below (by simpa using hb)).more hs1)
    have Hr3 := Lib.hid ((Hr.out.below (by simpa using hb)).more hs1)
    have Hw3 := Lib.hid ((Hw.out.below (by simpa using hb)).more hs1)
    clear hb hsz
    go_wp2_with fail
    refine (along_any w1.heap.size w.heap.size c c_gA c_bA c_hA c_gc c_bc c_hc n n_tA n_sA n_tc n_sc (fr, g) wA wc way Hway.out _ Hcar.out ((Hr3.out.alloc (Nat.le_refl _) _).more (by simp)) ((Hn3.out.alloc (Nat.le_refl _) _).more (by simp)) ((Hw3.out.alloc (Nat.le_refl _) _).more (by simp)) hwl).mono ?_
    rintro e w2 ⟨rfl, hb2⟩
    have HW2 := Lib.hid (HB3.out.trans (hb2.mono (by simp; omega)))
    clear hb2
    simp only [alongVal]
    go_wp2_with fail
    go_ret3
    exact ⟨by rw [hN.out]; rfl, HW2.out⟩
  · have hN : Hid (firstVal n c fr g way = .tuple #[.int .i64 0, .int .i64 0, .int .i64 (Pl.printed n c fr g way)]) := by show _ = _; rw [firstVal, if_neg e1]
    have hq : (Pl.printed n c fr g way != 0) = true := by rw [bne_iff_ne]; exact e1
    clear e1
    go_enter Tryz.func14, Tryz.ntmps14
    go_wp2_with fail
    refine (printed_any n n_tA n_sA n_tc n_sc c c_gA c_bA c_hA c_gc c_bc c_hc fr g wA wc way _ (by simpa using Hn.out) (by simpa using Hr.out) (by simpa using Hw.out) hwl).mono ?_
    rintro e w1 ⟨rfl, hb⟩
    have HW := Lib.hid ((HB2.out (.cells #[.int .i64 n.stops, .slice n_tA n.tracks.length n_tc, .slice n_sA n.shops.length n_sc] 25) (.cells #[.slice c_gA c.gauges.length c_gc, .int .i64 c.size, .int .i64 c.load, .slice c_bA c.brakes.length c_bc, .slice c_hA c.heats.length c_hc, .bool c.hooks] 28)).trans (hb.mono (by simp; omega)))
    clear hb
    go_wp2_with fail
    go_ret3
    exact ⟨by rw [hN.out]; rfl, HW.out⟩
end Go.Proofs.YtpbjpochjagicaaGreatDoorRR
