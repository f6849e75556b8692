/- Check and Fits, closed at the changed nets and cars of LineKnown (by gen_kc.py). -/
import Derived.Test.YtpbjpochjagicaaGreatDoorRRKx
namespace Go.Proofs.YtpbjpochjagicaaGreatDoorRR
open Go.RowKit
def stopsN : Pl.Nt := ⟨7, Pl.netN.tracks, [1]⟩
def loopN : Pl.Nt := ⟨4, [⟨0, 0, 10, 1, 5, 1, 0, 15, false⟩, ⟨1, 2, 5, 2, 5, 1, 0, 15, false⟩, ⟨0, 2, 20, 1, 3, 0, 0, 15, false⟩, ⟨2, 3, 4, 2, 6, 0, 1, 12, true⟩], [1]⟩
def shopN : Pl.Nt := ⟨4, Pl.netN.tracks, [4]⟩
def bareK : Pl.Cch := ⟨[], 4, 12, [1], [], false⟩
def wideK : Pl.Cch := ⟨[1, 2], 10, 12, [1], [], false⟩
theorem loopN_cells : ∀ k u, loopN.tracks[k]? = some u → ∀ j, j < 9 → (#[.int .i64 0, .int .i64 0, .int .i64 10, .int .i64 1, .int .i64 5, .int .i64 1, .int .i64 0, .int .i64 15, .bool false,
    .int .i64 1, .int .i64 2, .int .i64 5, .int .i64 2, .int .i64 5, .int .i64 1, .int .i64 0, .int .i64 15, .bool false,
    .int .i64 0, .int .i64 2, .int .i64 20, .int .i64 1, .int .i64 3, .int .i64 0, .int .i64 0, .int .i64 15, .bool false,
    .int .i64 2, .int .i64 3, .int .i64 4, .int .i64 2, .int .i64 6, .int .i64 0, .int .i64 1, .int .i64 12, .bool true] : Array Value)[0 + k * 9 + j]? = (trkCells u)[j]? := by
  intro k u hu j hj
  have hk : k < 4 := (List.getElem?_eq_some_iff.1 hu).1
  have hk' : k = 0 ∨ k = 1 ∨ k = 2 ∨ k = 3 := by omega
  have hj' : j = 0 ∨ j = 1 ∨ j = 2 ∨ j = 3 ∨ j = 4 ∨ j = 5 ∨ j = 6 ∨ j = 7 ∨ j = 8 := by omega
  rcases hk' with rfl | rfl | rfl | rfl <;> (injection hu with hu; subst hu; rcases hj' with rfl | rfl | rfl | rfl | rfl | rfl | rfl | rfl | rfl <;> rfl)
theorem kc_net (tA sA : Option Addr) (tc sc : Nat) (w : World) (hn : NReads w w.heap.size Pl.netN tA sA tc sc) : Calls Tryz.prog 7 #[.agg #[.int .i64 4, .slice tA 4 tc, .slice sA 1 sc]] w fun e w' => e = .returned (.int .i64 0) ∧ Below w.heap.size w w' := by
  have h := check_any Pl.netN tA sA tc sc w hn.tracks hn.shops (by decide) (by decide)
  rw [show Pl.check Pl.netN = 0 by kernel_rfl] at h
  exact h
theorem kc_stops (tA sA : Option Addr) (tc sc : Nat) (w : World) (hn : NReads w w.heap.size stopsN tA sA tc sc) : Calls Tryz.prog 7 #[.agg #[.int .i64 7, .slice tA 4 tc, .slice sA 1 sc]] w fun e w' => e = .returned (.int .i64 1) ∧ Below w.heap.size w w' := by
  have h := check_any stopsN tA sA tc sc w hn.tracks hn.shops (by decide) (by decide)
  rw [show Pl.check stopsN = 1 by kernel_rfl] at h
  exact h
theorem kc_loop (tA sA : Option Addr) (tc sc : Nat) (w : World) (hn : NReads w w.heap.size loopN tA sA tc sc) : Calls Tryz.prog 7 #[.agg #[.int .i64 4, .slice tA 4 tc, .slice sA 1 sc]] w fun e w' => e = .returned (.int .i64 4) ∧ Below w.heap.size w w' := by
  have h := check_any loopN tA sA tc sc w hn.tracks hn.shops (by decide) (by decide)
  rw [show Pl.check loopN = 4 by kernel_rfl] at h
  exact h
theorem kc_shop (tA sA : Option Addr) (tc sc : Nat) (w : World) (hn : NReads w w.heap.size shopN tA sA tc sc) : Calls Tryz.prog 7 #[.agg #[.int .i64 4, .slice tA 4 tc, .slice sA 1 sc]] w fun e w' => e = .returned (.int .i64 3) ∧ Below w.heap.size w w' := by
  have h := check_any shopN tA sA tc sc w hn.tracks hn.shops (by decide) (by decide)
  rw [show Pl.check shopN = 3 by kernel_rfl] at h
  exact h
theorem kf_car (gA bA hA : Option Addr) (gc bc hc : Nat) (w : World) (hr : CReads w w.heap.size Pl.carK gA bA hA gc bc hc) : Calls Tryz.prog 8 #[.agg #[.slice gA 2 gc, .int .i64 4, .int .i64 12, .slice bA 1 bc, .slice hA 0 hc, .bool false]] w fun e w' => e = .returned (.int .i64 0) ∧ Below w.heap.size w w' := by
  have h := fits_any Pl.carK gA bA hA gc bc hc w hr
  rw [show Pl.fits Pl.carK = 0 by kernel_rfl] at h
  exact h
theorem kf_bare (gA bA hA : Option Addr) (gc bc hc : Nat) (w : World) (hr : CReads w w.heap.size bareK gA bA hA gc bc hc) : Calls Tryz.prog 8 #[.agg #[.slice gA 0 gc, .int .i64 4, .int .i64 12, .slice bA 1 bc, .slice hA 0 hc, .bool false]] w fun e w' => e = .returned (.int .i64 7) ∧ Below w.heap.size w w' := by
  have h := fits_any bareK gA bA hA gc bc hc w hr
  rw [show Pl.fits bareK = 7 by kernel_rfl] at h
  exact h
theorem kf_wide (gA bA hA : Option Addr) (gc bc hc : Nat) (w : World) (hr : CReads w w.heap.size wideK gA bA hA gc bc hc) : Calls Tryz.prog 8 #[.agg #[.slice gA 2 gc, .int .i64 10, .int .i64 12, .slice bA 1 bc, .slice hA 0 hc, .bool false]] w fun e w' => e = .returned (.int .i64 1) ∧ Below w.heap.size w w' := by
  have h := fits_any wideK gA bA hA gc bc hc w hr
  rw [show Pl.fits wideK = 1 by kernel_rfl] at h
  exact h
end Go.Proofs.YtpbjpochjagicaaGreatDoorRR
