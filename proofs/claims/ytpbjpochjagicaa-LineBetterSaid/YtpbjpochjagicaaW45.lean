/- Walks: does a car come to a station, as the laws ask: comes. -/
import Derived.Test.YtpbjpochjagicaaW44
import Derived.Test.YtpbjpochjagicaaW16
namespace Go.Proofs.Ytpbjpochjagicaa
open Go.RowKit

/-- Reach, where the question is a good one. -/
theorem reach_any (n : Pl.Nt) (n_tA n_sA : Option Addr) (n_tc n_sc : Nat) (c : Pl.Cch) (c_gA c_bA c_hA : Option Addr) (c_gc c_bc c_hc : Nat) (fr g : Int) (w : World) (hn : NReads w w.heap.size n n_tA n_sA n_tc n_sc) (hr : CReads w w.heap.size c c_gA c_bA c_hA c_gc c_bc c_hc) (hq : Pl.question n c fr g = 0) :
    Calls Try.prog 48 #[.agg #[.int .i64 n.stops, .slice n_tA n.tracks.length n_tc, .slice n_sA n.shops.length n_sc], .agg #[.slice c_gA c.gauges.length c_gc, .int .i64 c.size, .int .i64 c.load, .slice c_bA c.brakes.length c_bc, .slice c_hA c.heats.length c_hc, .bool c.hooks], .int .i64 fr, .int .i64 g] w (StopsPost n c fr g w) := by
  obtain ⟨hb, ho, hg⟩ := question_b hq
  have hc := both_check hb
  have ho' := out_false ho
  have hgr := (fits_lists hc.2).1 g hg
  exact reach_ok n n_tA n_sA n_tc n_sc c c_gA c_bA c_hA c_gc c_bc c_hc fr g w hn hr hq places (gets_in hc.1 ho'.1 ho'.2 (by show 0 ≤ g; omega) (by show g ≤ 3; omega)) places_length

set_option maxHeartbeats 1000000 in
theorem kcomes_any (n : Pl.Nt) (n_tA n_sA : Option Addr) (n_tc n_sc : Nat) (c : Pl.Cch) (c_gA c_bA c_hA : Option Addr) (c_gc c_bc c_hc : Nat) (fr g ds : Int) (w : World) (hn : NReads w w.heap.size n n_tA n_sA n_tc n_sc) (hr : CReads w w.heap.size c c_gA c_bA c_hA c_gc c_bc c_hc) (hq : Pl.question n c fr g = 0) :
    Calls Try.prog 45 #[.agg #[.int .i64 n.stops, .slice n_tA n.tracks.length n_tc, .slice n_sA n.shops.length n_sc], .agg #[.slice c_gA c.gauges.length c_gc, .int .i64 c.size, .int .i64 c.load, .slice c_bA c.brakes.length c_bc, .slice c_hA c.heats.length c_hc, .bool c.hooks], .int .i64 fr, .int .i64 g, .int .i64 ds] w fun e w' => e = .returned (.tuple #[.bool (Pl.comes n c [] (fr, g) ds), .bool true]) ∧ Below w.heap.size w w' := by
  have hb2 : ∀ (o1 o2 : Obj), Below w.heap.size w ((w.alloc o1).alloc o2) := fun o1 o2 => ((Below.refl _ _).alloc (Nat.le_refl _) _).alloc (by simp) _
  have Hn := Lib.hid (((hn.below (hb2 (.cells #[.int .i64 n.stops, .slice n_tA n.tracks.length n_tc, .slice n_sA n.shops.length n_sc] 27) (.cells #[.slice c_gA c.gauges.length c_gc, .int .i64 c.size, .int .i64 c.load, .slice c_bA c.brakes.length c_bc, .slice c_hA c.heats.length c_hc, .bool c.hooks] 30)))).more (B' := w.heap.size + 1 + 1) (by omega))
  have Hr := Lib.hid (((hr.below (hb2 (.cells #[.int .i64 n.stops, .slice n_tA n.tracks.length n_tc, .slice n_sA n.shops.length n_sc] 27) (.cells #[.slice c_gA c.gauges.length c_gc, .int .i64 c.size, .int .i64 c.load, .slice c_bA c.brakes.length c_bc, .slice c_hA c.heats.length c_hc, .bool c.hooks] 30)))).more (B' := w.heap.size + 1 + 1) (by omega))
  have HB2 := Lib.hid (hb2 (.cells #[.int .i64 n.stops, .slice n_tA n.tracks.length n_tc, .slice n_sA n.shops.length n_sc] 27) (.cells #[.slice c_gA c.gauges.length c_gc, .int .i64 c.size, .int .i64 c.load, .slice c_bA c.brakes.length c_bc, .slice c_hA c.heats.length c_hc, .bool c.hooks] 30)); clear hb2 hn hr
  go_enter Try.func45, Try.ntmps45
  go_wp2_with fail
  refine (reach_any n n_tA n_sA n_tc n_sc c c_gA c_bA c_hA c_gc c_bc c_hc fr g _ (by simpa using Hn.out) (by simpa using Hr.out) hq).mono ?_
  rintro e w1 ⟨A, cp, ys, rfl, _, hmem, hl, hI, hb⟩
  have HW := Lib.hid (HB2.out.trans (hb.mono (by simp; omega)))
  have hd : decide (0 ≤ idx ys ds) = Pl.comes n c [] (fr, g) ds := by
    cases hcm : Pl.comes n c [] (fr, g) ds
    · have h1 : ds ∉ ys := fun h => by rw [(hmem ds).1 h] at hcm; cases hcm
      have := (idx_lt ys ds).2 h1
      simp; omega
    · have := (idx_ge ys ds).2 ((hmem ds).2 hcm)
      simp; omega
  have HD := Lib.hid hd
  clear hd hb hmem
  go_wp2_with fail
  refine (seat_any A cp ys ds _ _ hI (by omega)).mono ?_
  rintro e w2 ⟨rfl, rfl⟩
  go_wp2_with fail
  go_ret2
  exact ⟨by rw [← HD.out]; rfl, HW.out⟩
end Go.Proofs.Ytpbjpochjagicaa
