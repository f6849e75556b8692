/- Walks: does a car come to a station, as the laws ask: comes. -/
import Derived.Test.YtpbjpochjagicaaGreatDoorRRW44
import Derived.Test.YtpbjpochjagicaaGreatDoorRRW15
namespace Go.Proofs.YtpbjpochjagicaaGreatDoorRR
open Go.RowKit

/-- Reach, where the question is a good one. -/
theorem reach_any (n : Pl.Nt) (n_tA n_sA : Option Addr) (n_tc n_sc : Nat) (c : Pl.Cch) (c_gA c_bA c_hA : Option Addr) (c_gc c_bc c_hc : Nat) (fr g : Int) (w : World) (hn : NReads w w.heap.size n n_tA n_sA n_tc n_sc) (hr : CReads w w.heap.size c c_gA c_bA c_hA c_gc c_bc c_hc) (hq : Pl.question n c fr g = 0) :
    Calls Tryz.prog 12 #[.agg #[.int .i64 n.stops, .slice n_tA n.tracks.length n_tc, .slice n_sA n.shops.length n_sc], .agg #[.slice c_gA c.gauges.length c_gc, .int .i64 c.size, .int .i64 c.load, .slice c_bA c.brakes.length c_bc, .slice c_hA c.heats.length c_hc, .bool c.hooks], .int .i64 fr, .int .i64 g] w (StopsPost n c fr g w) := by
  obtain ⟨hb, ho, hg⟩ := question_b hq
  have hc := both_check hb
  have ho' := out_false ho
  have hgr := (fits_lists hc.2).1 g hg
  exact reach_ok n n_tA n_sA n_tc n_sc c c_gA c_bA c_hA c_gc c_bc c_hc fr g w hn hr hq places (gets_in hc.1 ho'.1 ho'.2 (by show 0 ≤ g; omega) (by show g ≤ 3; omega)) places_length

end Go.Proofs.YtpbjpochjagicaaGreatDoorRR
