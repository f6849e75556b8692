/- Walks: lists that hold lines of a net alone: lines. -/
import Derived.Test.YtpbjpochjagicaaW8
namespace Go.Proofs.Ytpbjpochjagicaa
open Go.RowKit

set_option maxHeartbeats 1000000 in
theorem lines_yes (n : Pl.Nt) (n_tA n_sA : Option Addr) (n_tc n_sc : Nat) (A : Option Addr) (c : Nat) (l : List Int) (w : World) (hx : Ints w w.heap.size A l) (hlen : l.length ≤ 1000) (hin : ∀ x ∈ l, 0 ≤ x ∧ x < (n.tracks.length : Int)) (_ht : n.tracks.length ≤ 1000) :
    Calls Try.prog 42 #[.agg #[.int .i64 n.stops, .slice n_tA n.tracks.length n_tc, .slice n_sA n.shops.length n_sc], .slice A l.length c] w fun e w' => e = .returned (.bool true) ∧ Below w.heap.size w w' := by
  have HX := Lib.hid hx
  have HIN := Lib.hid hin
  have hb0 : Below w.heap.size w (w.alloc (.cells #[.int .i64 n.stops, .slice n_tA n.tracks.length n_tc, .slice n_sA n.shops.length n_sc] 27)) := (Below.refl _ _).alloc (Nat.le_refl _) _
  have HB0 := Lib.hid hb0
  have H0 : Hid ((w.alloc (.cells #[.int .i64 n.stops, .slice n_tA n.tracks.length n_tc, .slice n_sA n.shops.length n_sc] 27)).heap[w.heap.size]? = some (.cells #[.int .i64 n.stops, .slice n_tA n.tracks.length n_tc, .slice n_sA n.shops.length n_sc] 27 (0, 0))) := heap_alloc_new w _
  clear hx hin hb0
  go_enter Try.func42, Try.ntmps42
  go_wp2_with fail
  go_loopw [5] (fun i wr => ∃ k : Nat, k ≤ l.length ∧ i = .int .i64 k ∧ Hid (wr.heap[w.heap.size]? = some (.cells #[.int .i64 n.stops, .slice n_tA n.tracks.length n_tc, .slice n_sA n.shops.length n_sc] 27 (0, 0))) ∧ Hid (Below w.heap.size w wr)) (fun i _ => l.length - (intOf i).toNat)
  case atStart => exact ⟨0, by omega, rfl, H0, HB0⟩
  case round =>
    obtain ⟨k, hk, rfl, hbx, hbw⟩ := hrel
    clear H0 HB0
    by_cases hkl : k < l.length
    · obtain ⟨b, off, hA, hlt, hc⟩ := HX.out k l[k] (List.getElem?_eq_getElem hkl)
      subst hA
      have hi := HIN.out l[k] (List.getElem_mem hkl)
      have c1 := (hbw.out.cell (p := ⟨b, off + k, none⟩) hlt).trans hc
      have n1 : wr.cell? ⟨w.heap.size, 1, none⟩ = some (.slice n_tA n.tracks.length n_tc) := blk_cell hbx.out 1
      have k1 : (k : Int) < (l.length : Int) := by omega
      generalize l[k] = x at hi c1
      have d1 : decide (x < 0) = false := by simp; omega
      have d2 : decide ((n.tracks.length : Int) ≤ x) = false := by simp; omega
      clear hc
      go_wp2_with fail
      go_quiet (fail)
      go_wp2_with fail
      go_roundw
      case rel => exact ⟨k + 1, by omega, by go_num, hbx, below_drewN hbw.out _⟩
      case measure => simp [intOf]; omega
    · have hk2 : ¬ (k : Int) < (l.length : Int) := by omega
      go_wp2_with fail
      go_ret
      exact ⟨rfl, hbw.out⟩
end Go.Proofs.Ytpbjpochjagicaa
