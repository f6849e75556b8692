/- Walks: large, EqualCoaches (by gen_large.py). Walks: EqualNets (by gen_equalnets.py). -/
import Derived.Test.YtpbjpochjagicaaW79
namespace Go.Proofs.Ytpbjpochjagicaa
open Go.RowKit

/-- More than twenty of a kind. -/
def largeIn (n : Pl.Nt) (c : Pl.Cch) : Bool := decide (20 < n.tracks.length) || decide (20 < n.shops.length) || decide (20 < c.gauges.length) || decide (20 < c.brakes.length) || decide (20 < c.heats.length)

theorem two_new (w : World) (cs ds : Array Value) (t u : Nat) :
    ((w.alloc (.cells cs t)).alloc (.cells ds u)).heap[w.heap.size]? = some (.cells cs t (0, 0)) ∧ ((w.alloc (.cells cs t)).alloc (.cells ds u)).heap[w.heap.size + 1]? = some (.cells ds u (0, 0)) ∧
      Below w.heap.size w ((w.alloc (.cells cs t)).alloc (.cells ds u)) ∧ ((w.alloc (.cells cs t)).alloc (.cells ds u)).heap.size = w.heap.size + 2 := by
  refine ⟨blk_alloc (heap_alloc_new w _) _, ?_, ((Below.refl _ _).alloc (Nat.le_refl _) _).alloc (by simp) _, by simp⟩
  have := heap_alloc_new (w.alloc (.cells cs t)) (.cells ds u)
  simpa using this

set_option maxRecDepth 20000 in
set_option maxHeartbeats 4000000 in
theorem large_any (n : Pl.Nt) (n_tA n_sA : Option Addr) (n_tc n_sc : Nat) (c : Pl.Cch) (c_gA c_bA c_hA : Option Addr) (c_gc c_bc c_hc : Nat) (w : World) : Calls Try.prog 34 #[.agg #[.int .i64 n.stops, .slice n_tA n.tracks.length n_tc, .slice n_sA n.shops.length n_sc], .agg #[.slice c_gA c.gauges.length c_gc, .int .i64 c.size, .int .i64 c.load, .slice c_bA c.brakes.length c_bc, .slice c_hA c.heats.length c_hc, .bool c.hooks]] w fun e w' => e = .returned (.bool (largeIn n c)) ∧ Below w.heap.size w w' := by
  obtain ⟨m0, m1, hb, hs⟩ := two_new w #[.int .i64 n.stops, .slice n_tA n.tracks.length n_tc, .slice n_sA n.shops.length n_sc] #[.slice c_gA c.gauges.length c_gc, .int .i64 c.size, .int .i64 c.load, .slice c_bA c.brakes.length c_bc, .slice c_hA c.heats.length c_hc, .bool c.hooks] 27 30
  obtain ⟨⟨z0, z1, z2⟩, x0, x1, x2, x3, x4, x5⟩ := boxes_keep n n_tA n_sA n_tc n_sc c c_gA c_bA c_hA c_gc c_bc c_hc m0 m1 _ (Below.refl _ _)
  by_cases h0 : 20 < n.tracks.length
  · have f0 : decide ((20 : Int) < (n.tracks.length : Int)) = true := by simp; omega
    have g0 : ((20 : Int) < (n.tracks.length : Int)) := by omega
    have hN : largeIn n c = true := by simp [largeIn, h0]
    rw [hN]
    clear hN h0
    go_enter Try.func34, Try.ntmps34
    go_wp2_with fail
    generalize ((w.alloc (.cells #[.int .i64 n.stops, .slice n_tA n.tracks.length n_tc, .slice n_sA n.shops.length n_sc] 27)).alloc (.cells #[.slice c_gA c.gauges.length c_gc, .int .i64 c.size, .int .i64 c.load, .slice c_bA c.brakes.length c_bc, .slice c_hA c.heats.length c_hc, .bool c.hooks] 30)) = wt at *
    go_wp2_with fail
    go_ret
    exact ⟨rfl, hb⟩
  · by_cases h1 : 20 < n.shops.length
    · have f0 : decide ((20 : Int) < (n.tracks.length : Int)) = false := by simp; omega
      have g0 : ¬ ((20 : Int) < (n.tracks.length : Int)) := by omega
      have f1 : decide ((20 : Int) < (n.shops.length : Int)) = true := by simp; omega
      have g1 : ((20 : Int) < (n.shops.length : Int)) := by omega
      have hN : largeIn n c = true := by simp [largeIn, h0, h1]
      rw [hN]
      clear hN h0 h1
      go_enter Try.func34, Try.ntmps34
      go_wp2_with fail
      generalize ((w.alloc (.cells #[.int .i64 n.stops, .slice n_tA n.tracks.length n_tc, .slice n_sA n.shops.length n_sc] 27)).alloc (.cells #[.slice c_gA c.gauges.length c_gc, .int .i64 c.size, .int .i64 c.load, .slice c_bA c.brakes.length c_bc, .slice c_hA c.heats.length c_hc, .bool c.hooks] 30)) = wt at *
      go_wp2_with fail
      go_ret
      exact ⟨rfl, hb⟩
    · by_cases h2 : 20 < c.gauges.length
      · have f0 : decide ((20 : Int) < (n.tracks.length : Int)) = false := by simp; omega
        have g0 : ¬ ((20 : Int) < (n.tracks.length : Int)) := by omega
        have f1 : decide ((20 : Int) < (n.shops.length : Int)) = false := by simp; omega
        have g1 : ¬ ((20 : Int) < (n.shops.length : Int)) := by omega
        have f2 : decide ((20 : Int) < (c.gauges.length : Int)) = true := by simp; omega
        have g2 : ((20 : Int) < (c.gauges.length : Int)) := by omega
        have hN : largeIn n c = true := by simp [largeIn, h0, h1, h2]
        rw [hN]
        clear hN h0 h1 h2
        go_enter Try.func34, Try.ntmps34
        go_wp2_with fail
        generalize ((w.alloc (.cells #[.int .i64 n.stops, .slice n_tA n.tracks.length n_tc, .slice n_sA n.shops.length n_sc] 27)).alloc (.cells #[.slice c_gA c.gauges.length c_gc, .int .i64 c.size, .int .i64 c.load, .slice c_bA c.brakes.length c_bc, .slice c_hA c.heats.length c_hc, .bool c.hooks] 30)) = wt at *
        go_wp2_with fail
        go_ret
        exact ⟨rfl, hb⟩
      · by_cases h3 : 20 < c.brakes.length
        · have f0 : decide ((20 : Int) < (n.tracks.length : Int)) = false := by simp; omega
          have g0 : ¬ ((20 : Int) < (n.tracks.length : Int)) := by omega
          have f1 : decide ((20 : Int) < (n.shops.length : Int)) = false := by simp; omega
          have g1 : ¬ ((20 : Int) < (n.shops.length : Int)) := by omega
          have f2 : decide ((20 : Int) < (c.gauges.length : Int)) = false := by simp; omega
          have g2 : ¬ ((20 : Int) < (c.gauges.length : Int)) := by omega
          have f3 : decide ((20 : Int) < (c.brakes.length : Int)) = true := by simp; omega
          have g3 : ((20 : Int) < (c.brakes.length : Int)) := by omega
          have hN : largeIn n c = true := by simp [largeIn, h0, h1, h2, h3]
          rw [hN]
          clear hN h0 h1 h2 h3
          go_enter Try.func34, Try.ntmps34
          go_wp2_with fail
          generalize ((w.alloc (.cells #[.int .i64 n.stops, .slice n_tA n.tracks.length n_tc, .slice n_sA n.shops.length n_sc] 27)).alloc (.cells #[.slice c_gA c.gauges.length c_gc, .int .i64 c.size, .int .i64 c.load, .slice c_bA c.brakes.length c_bc, .slice c_hA c.heats.length c_hc, .bool c.hooks] 30)) = wt at *
          go_wp2_with fail
          go_ret
          exact ⟨rfl, hb⟩
        · by_cases h4 : 20 < c.heats.length
          · have f0 : decide ((20 : Int) < (n.tracks.length : Int)) = false := by simp; omega
            have g0 : ¬ ((20 : Int) < (n.tracks.length : Int)) := by omega
            have f1 : decide ((20 : Int) < (n.shops.length : Int)) = false := by simp; omega
            have g1 : ¬ ((20 : Int) < (n.shops.length : Int)) := by omega
            have f2 : decide ((20 : Int) < (c.gauges.length : Int)) = false := by simp; omega
            have g2 : ¬ ((20 : Int) < (c.gauges.length : Int)) := by omega
            have f3 : decide ((20 : Int) < (c.brakes.length : Int)) = false := by simp; omega
            have g3 : ¬ ((20 : Int) < (c.brakes.length : Int)) := by omega
            have f4 : decide ((20 : Int) < (c.heats.length : Int)) = true := by simp; omega
            have g4 : ((20 : Int) < (c.heats.length : Int)) := by omega
            have hN : largeIn n c = true := by simp [largeIn, h0, h1, h2, h3, h4]
            rw [hN]
            clear hN h0 h1 h2 h3 h4
            go_enter Try.func34, Try.ntmps34
            go_wp2_with fail
            generalize ((w.alloc (.cells #[.int .i64 n.stops, .slice n_tA n.tracks.length n_tc, .slice n_sA n.shops.length n_sc] 27)).alloc (.cells #[.slice c_gA c.gauges.length c_gc, .int .i64 c.size, .int .i64 c.load, .slice c_bA c.brakes.length c_bc, .slice c_hA c.heats.length c_hc, .bool c.hooks] 30)) = wt at *
            go_wp2_with fail
            go_ret
            exact ⟨rfl, hb⟩
          · have f0 : decide ((20 : Int) < (n.tracks.length : Int)) = false := by simp; omega
            have g0 : ¬ ((20 : Int) < (n.tracks.length : Int)) := by omega
            have f1 : decide ((20 : Int) < (n.shops.length : Int)) = false := by simp; omega
            have g1 : ¬ ((20 : Int) < (n.shops.length : Int)) := by omega
            have f2 : decide ((20 : Int) < (c.gauges.length : Int)) = false := by simp; omega
            have g2 : ¬ ((20 : Int) < (c.gauges.length : Int)) := by omega
            have f3 : decide ((20 : Int) < (c.brakes.length : Int)) = false := by simp; omega
            have g3 : ¬ ((20 : Int) < (c.brakes.length : Int)) := by omega
            have f4 : decide ((20 : Int) < (c.heats.length : Int)) = false := by simp; omega
            have g4 : ¬ ((20 : Int) < (c.heats.length : Int)) := by omega
            have hN : largeIn n c = false := by simp [largeIn, h0, h1, h2, h3, h4]
            rw [hN]
            clear hN h0 h1 h2 h3 h4
            go_enter Try.func34, Try.ntmps34
            go_wp2_with fail
            generalize ((w.alloc (.cells #[.int .i64 n.stops, .slice n_tA n.tracks.length n_tc, .slice n_sA n.shops.length n_sc] 27)).alloc (.cells #[.slice c_gA c.gauges.length c_gc, .int .i64 c.size, .int .i64 c.load, .slice c_bA c.brakes.length c_bc, .slice c_hA c.heats.length c_hc, .bool c.hooks] 30)) = wt at *
            go_wp2_with fail
            go_ret
            exact ⟨rfl, hb⟩

theorem equal_same (A B : Option Addr) (ca cb : Nat) (xs : List Int) (w : World) (hx : Ints w w.heap.size A xs) (hy : Ints w w.heap.size B xs) (hl : xs.length ≤ 1000) :
    Calls Try.prog 24 #[.slice A xs.length ca, .slice B xs.length cb] w fun e w' => e = .returned (.bool true) ∧ Below w.heap.size w w' :=
  (equal_any A B ca cb xs xs w hx hy hl hl).mono fun _ _ h => by simpa using h

set_option maxRecDepth 20000 in
set_option maxHeartbeats 4000000 in
theorem equalCoach_any (c : Pl.Cch) (c_gA c_bA c_hA : Option Addr) (c_gc c_bc c_hc : Nat) (d_gA d_bA d_hA : Option Addr) (d_gc d_bc d_hc : Nat) (w : World) (hr : CReads w w.heap.size c c_gA c_bA c_hA c_gc c_bc c_hc) (hd : CReads w w.heap.size c d_gA d_bA d_hA d_gc d_bc d_hc)
    (lg : c.gauges.length ≤ 1000) (lb : c.brakes.length ≤ 1000) (lh : c.heats.length ≤ 1000) :
    Calls Try.prog 87 #[.agg #[.slice c_gA c.gauges.length c_gc, .int .i64 c.size, .int .i64 c.load, .slice c_bA c.brakes.length c_bc, .slice c_hA c.heats.length c_hc, .bool c.hooks], .agg #[.slice d_gA c.gauges.length d_gc, .int .i64 c.size, .int .i64 c.load, .slice d_bA c.brakes.length d_bc, .slice d_hA c.heats.length d_hc, .bool c.hooks]] w fun e w' => e = .returned (.bool true) ∧ Below w.heap.size w w' := by
  obtain ⟨m0, m1, hb, hs⟩ := two_new w #[.slice c_gA c.gauges.length c_gc, .int .i64 c.size, .int .i64 c.load, .slice c_bA c.brakes.length c_bc, .slice c_hA c.heats.length c_hc, .bool c.hooks] #[.slice d_gA c.gauges.length d_gc, .int .i64 c.size, .int .i64 c.load, .slice d_bA c.brakes.length d_bc, .slice d_hA c.heats.length d_hc, .bool c.hooks] 30 30
  have hkp : ∀ W, Below (w.heap.size + 2) ((w.alloc (.cells #[.slice c_gA c.gauges.length c_gc, .int .i64 c.size, .int .i64 c.load, .slice c_bA c.brakes.length c_bc, .slice c_hA c.heats.length c_hc, .bool c.hooks] 30)).alloc (.cells #[.slice d_gA c.gauges.length d_gc, .int .i64 c.size, .int .i64 c.load, .slice d_bA c.brakes.length d_bc, .slice d_hA c.heats.length d_hc, .bool c.hooks] 30)) W →
      (W.cell? ⟨w.heap.size, 0, none⟩ = some (.slice c_gA c.gauges.length c_gc) ∧ W.cell? ⟨w.heap.size, 1, none⟩ = some (.int .i64 c.size) ∧ W.cell? ⟨w.heap.size, 2, none⟩ = some (.int .i64 c.load) ∧ W.cell? ⟨w.heap.size, 3, none⟩ = some (.slice c_bA c.brakes.length c_bc) ∧ W.cell? ⟨w.heap.size, 4, none⟩ = some (.slice c_hA c.heats.length c_hc) ∧ W.cell? ⟨w.heap.size, 5, none⟩ = some (.bool c.hooks)) ∧
      (W.cell? ⟨w.heap.size + 1, 0, none⟩ = some (.slice d_gA c.gauges.length d_gc) ∧ W.cell? ⟨w.heap.size + 1, 1, none⟩ = some (.int .i64 c.size) ∧ W.cell? ⟨w.heap.size + 1, 2, none⟩ = some (.int .i64 c.load) ∧ W.cell? ⟨w.heap.size + 1, 3, none⟩ = some (.slice d_bA c.brakes.length d_bc) ∧ W.cell? ⟨w.heap.size + 1, 4, none⟩ = some (.slice d_hA c.heats.length d_hc) ∧ W.cell? ⟨w.heap.size + 1, 5, none⟩ = some (.bool c.hooks)) := fun W hW => by
    have h0 := blk_below m0 hW (by omega)
    have h1 := blk_below m1 hW (by omega)
    exact ⟨⟨blk_cell h0 0, blk_cell h0 1, blk_cell h0 2, blk_cell h0 3, blk_cell h0 4, blk_cell h0 5⟩, blk_cell h1 0, blk_cell h1 1, blk_cell h1 2, blk_cell h1 3, blk_cell h1 4, blk_cell h1 5⟩
  have HR := Lib.hid ((hr.below hb).more (B' := w.heap.size + 2) (by omega))
  have HD := Lib.hid ((hd.below hb).more (B' := w.heap.size + 2) (by omega))
  have HS := Lib.hid hs
  have HB := Lib.hid hb
  have HKP := Lib.hid hkp
  have f1 : (c.size == c.size) = true := by simp
  have f2 : (c.load == c.load) = true := by simp
  have f3 : (c.hooks == c.hooks) = true := by simp
  obtain ⟨⟨z0, z1, z2, z3, z4, z5⟩, x0, x1, x2, x3, x4, x5⟩ := hkp _ (Below.refl _ _)
  clear hkp m0 m1 hb hs hr hd
  go_enter Try.func87, Try.ntmps87
  go_wp2_with fail
  generalize ((w.alloc (.cells #[.slice c_gA c.gauges.length c_gc, .int .i64 c.size, .int .i64 c.load, .slice c_bA c.brakes.length c_bc, .slice c_hA c.heats.length c_hc, .bool c.hooks] 30)).alloc (.cells #[.slice d_gA c.gauges.length d_gc, .int .i64 c.size, .int .i64 c.load, .slice d_bA c.brakes.length d_bc, .slice d_hA c.heats.length d_hc, .bool c.hooks] 30)) = wt at *
  go_wp2_with fail

  refine (equal_same _ _ _ _ _ _ (by rw [HS.out]; exact HR.out.gauges) (by rw [HS.out]; exact HD.out.gauges) lg).mono ?_
  rintro e w1 ⟨rfl, hb⟩
  rw [HS.out] at hb
  have HB1 := Lib.hid hb
  obtain ⟨⟨z0, z1, z2, z3, z4, z5⟩, x0, x1, x2, x3, x4, x5⟩ := HKP.out _ hb
  clear hb
  go_wp2_with fail
  have HSz1 : Hid (w.heap.size + 2 ≤ w1.heap.size) := HS.out ▸ HB1.out.size
  refine (equal_same _ _ _ _ _ _ ((HR.out.below HB1.out).brakes.more HSz1.out) ((HD.out.below HB1.out).brakes.more HSz1.out) lb).mono ?_
  rintro e w2 ⟨rfl, hb⟩
  have HB2 := Lib.hid (HB1.out.trans (hb.mono HSz1.out))
  obtain ⟨⟨z0, z1, z2, z3, z4, z5⟩, x0, x1, x2, x3, x4, x5⟩ := HKP.out _ HB2.out
  clear hb
  go_wp2_with fail
  have HSz2 : Hid (w.heap.size + 2 ≤ w2.heap.size) := HS.out ▸ HB2.out.size
  refine (equal_same _ _ _ _ _ _ ((HR.out.below HB2.out).heats.more HSz2.out) ((HD.out.below HB2.out).heats.more HSz2.out) lh).mono ?_
  rintro e w3 ⟨rfl, hb⟩
  have HB3 := Lib.hid (HB2.out.trans (hb.mono HSz2.out))
  clear hb
  go_wp2_with fail
  go_ret
  exact ⟨rfl, HB.out.trans (HB3.out.mono (by omega))⟩
end Go.Proofs.Ytpbjpochjagicaa

namespace Go.Proofs.Ytpbjpochjagicaa
open Go.RowKit

set_option maxRecDepth 20000 in
set_option maxHeartbeats 4000000 in
theorem equalNet_any (n : Pl.Nt) (n_tA n_sA : Option Addr) (n_tc n_sc : Nat) (m_tA m_sA : Option Addr) (m_tc m_sc : Nat) (w : World) (hn : NReads w w.heap.size n n_tA n_sA n_tc n_sc) (hm : NReads w w.heap.size n m_tA m_sA m_tc m_sc) (lt : n.tracks.length ≤ 1000) (ls : n.shops.length ≤ 1000) :
    Calls Try.prog 86 #[.agg #[.int .i64 n.stops, .slice n_tA n.tracks.length n_tc, .slice n_sA n.shops.length n_sc], .agg #[.int .i64 n.stops, .slice m_tA n.tracks.length m_tc, .slice m_sA n.shops.length m_sc]] w fun e w' => e = .returned (.bool true) ∧ Below w.heap.size w w' := by
  obtain ⟨m0, m1, hb, hs⟩ := two_new w #[.int .i64 n.stops, .slice n_tA n.tracks.length n_tc, .slice n_sA n.shops.length n_sc] #[.int .i64 n.stops, .slice m_tA n.tracks.length m_tc, .slice m_sA n.shops.length m_sc] 27 27
  have hkp : ∀ W, Below (w.heap.size + 2) ((w.alloc (.cells #[.int .i64 n.stops, .slice n_tA n.tracks.length n_tc, .slice n_sA n.shops.length n_sc] 27)).alloc (.cells #[.int .i64 n.stops, .slice m_tA n.tracks.length m_tc, .slice m_sA n.shops.length m_sc] 27)) W →
      (W.cell? ⟨w.heap.size, 0, none⟩ = some (.int .i64 n.stops) ∧ W.cell? ⟨w.heap.size, 1, none⟩ = some (.slice n_tA n.tracks.length n_tc) ∧ W.cell? ⟨w.heap.size, 2, none⟩ = some (.slice n_sA n.shops.length n_sc)) ∧
      (W.cell? ⟨w.heap.size + 1, 0, none⟩ = some (.int .i64 n.stops) ∧ W.cell? ⟨w.heap.size + 1, 1, none⟩ = some (.slice m_tA n.tracks.length m_tc) ∧ W.cell? ⟨w.heap.size + 1, 2, none⟩ = some (.slice m_sA n.shops.length m_sc)) := fun W hW => by
    have h0 := blk_below m0 hW (by omega)
    have h1 := blk_below m1 hW (by omega)
    exact ⟨⟨blk_cell h0 0, blk_cell h0 1, blk_cell h0 2⟩, blk_cell h1 0, blk_cell h1 1, blk_cell h1 2⟩
  have HN := Lib.hid ((hn.below hb).more (B' := w.heap.size + 2) (by omega))
  have HM := Lib.hid ((hm.below hb).more (B' := w.heap.size + 2) (by omega))
  have HS := Lib.hid hs
  have HB := Lib.hid hb
  have HKP := Lib.hid hkp
  have f1 : (n.stops == n.stops) = true := by simp
  have f2 : ((n.tracks.length : Int) == (n.tracks.length : Int)) = true := by simp
  obtain ⟨⟨z0, z1, z2⟩, x0, x1, x2⟩ := hkp _ (Below.refl _ _)
  clear hkp m0 m1 hb hs hn hm
  go_enter Try.func86, Try.ntmps86
  go_wp2_with fail
  generalize ((w.alloc (.cells #[.int .i64 n.stops, .slice n_tA n.tracks.length n_tc, .slice n_sA n.shops.length n_sc] 27)).alloc (.cells #[.int .i64 n.stops, .slice m_tA n.tracks.length m_tc, .slice m_sA n.shops.length m_sc] 27)) = wt at *
  go_wp2_with fail
  refine (equal_same _ _ _ _ _ _ (by rw [HS.out]; exact HN.out.shops) (by rw [HS.out]; exact HM.out.shops) ls).mono ?_
  rintro e w1 ⟨rfl, hb⟩
  rw [HS.out] at hb
  have HB1 := Lib.hid hb
  have HSz1 : Hid (w.heap.size + 2 ≤ w1.heap.size) := HS.out ▸ hb.size
  obtain ⟨⟨z0, z1, z2⟩, x0, x1, x2⟩ := HKP.out _ hb
  clear hb
  go_wp2_with fail
  go_loopw [5, 6] (fun sv iv wr => ∃ k : Nat, k ≤ n.tracks.length ∧ sv = .bool true ∧ iv = .int .i64 k ∧ Hid (Below (w.heap.size + 2) wt wr)) (fun _ i _ => n.tracks.length - (intOf i).toNat)
  case atStart => exact ⟨0, by omega, rfl, rfl, HB1.out⟩
  case round =>
    obtain ⟨k, hk, rfl, rfl, hB⟩ := hrel
    obtain ⟨⟨z0, z1, z2⟩, x0, x1, x2⟩ := HKP.out _ hB.out
    by_cases hkl : k < n.tracks.length
    · have hkk : (k : Int) < (n.tracks.length : Int) := by omega
      obtain ⟨bt, ot, hAt, hbt, hct⟩ := HN.out.tracks k n.tracks[k] (List.getElem?_eq_getElem hkl)
      obtain ⟨bu, ou, hAu, hbu, hcu⟩ := HM.out.tracks k n.tracks[k] (List.getElem?_eq_getElem hkl)
      subst hAt
      subst hAu
      obtain ⟨c0, c1, c2, c3, c4, c5, c6, c7, c8⟩ := trk_cells (w := wr) (b := bt) (o := ot + k * 9) (fun j v hv => (hB.out.cell (p := ⟨bt, ot + k * 9 + j, none⟩) hbt).trans (hct j v hv))
      obtain ⟨d0, d1, d2, d3, d4, d5, d6, d7, d8⟩ := trk_cells (w := wr) (b := bu) (o := ou + k * 9) (fun j v hv => (hB.out.cell (p := ⟨bu, ou + k * 9 + j, none⟩) hbu).trans (hcu j v hv))
      obtain ⟨t, ht⟩ : ∃ t, n.tracks[k] = t := ⟨_, rfl⟩
      rw [ht] at c0 c1 c2 c3 c4 c5 c6 c7 c8 d0 d1 d2 d3 d4 d5 d6 d7 d8
      clear hct hcu ht hbt hbu
      go_wp2_with fail
      go_quiet (fail)
      go_wp2_with fail
      exact ⟨⟨k + 1, by omega, rfl, by go_num, below_same hB.out _⟩, by simp [intOf]; omega⟩
    · obtain rfl : k = n.tracks.length := by omega
      have HBR := Lib.hid (HB.out.trans (hB.out.mono (by omega)))
      clear hB
      go_wp2_with fail
      go_ret
      exact ⟨rfl, HBR.out⟩
end Go.Proofs.Ytpbjpochjagicaa
