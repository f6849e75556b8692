/- Walks: same (by gen_same.py). -/
import Derived.Test.YtpbjpochjagicaaW83
namespace Go.Proofs.Ytpbjpochjagicaa
open Go.RowKit

theorem three_new (w : World) (o1 o2 o3 : Obj) : (((w.alloc o1).alloc o2).alloc o3).heap[w.heap.size]? = some o1 ∧ (((w.alloc o1).alloc o2).alloc o3).heap[w.heap.size + 1]? = some o2 ∧ (((w.alloc o1).alloc o2).alloc o3).heap[w.heap.size + 1 + 1]? = some o3 ∧
    Below w.heap.size w (((w.alloc o1).alloc o2).alloc o3) ∧ (((w.alloc o1).alloc o2).alloc o3).heap.size = w.heap.size + 1 + 1 + 1 := by
  have h1 := heap_alloc_new w o1
  have h2 := heap_alloc_new (w.alloc o1) o2
  have h3 := heap_alloc_new ((w.alloc o1).alloc o2) o3
  have hs : ∀ (w : World) (o : Obj), (w.alloc o).heap.size = w.heap.size + 1 := fun w o => by simp
  simp only [hs] at h2 h3
  exact ⟨blk_alloc (blk_alloc h1 _) _, blk_alloc h2 _, h3, (((Below.refl _ _).alloc (Nat.le_refl _) _).alloc (by simp) _).alloc (by simp; omega) _, by simp⟩

set_option maxRecDepth 20000 in
set_option maxHeartbeats 4000000 in
theorem same_any (n : Pl.Nt) (n_tA n_sA : Option Addr) (n_tc n_sc : Nat) (c : Pl.Cch) (c_gA c_bA c_hA : Option Addr) (c_gc c_bc c_hc : Nat) (m_tA m_sA : Option Addr) (m_tc m_sc : Nat) (d_gA d_bA d_hA : Option Addr) (d_gc d_bc d_hc : Nat) (B i : Nat) (w : World)
    (hn : NReads w w.heap.size n n_tA n_sA n_tc n_sc) (hm : NReads w w.heap.size n m_tA m_sA m_tc m_sc) (hr : CReads w w.heap.size c c_gA c_bA c_hA c_gc c_bc c_hc) (hd : CReads w w.heap.size c d_gA d_bA d_hA d_gc d_bc d_hc)
    (lt : n.tracks.length ≤ 1000) (ls : n.shops.length ≤ 1000) (lg : c.gauges.length ≤ 1000) (lb : c.brakes.length ≤ 1000) (lh : c.heats.length ≤ 1000) (hi : i < 5) (hB : B + 1 < w.heap.size)
    (hN : (w.cell? ⟨B, i * 3, none⟩ = some (.int .i64 n.stops) ∧ w.cell? ⟨B, i * 3 + 1, none⟩ = some (.slice m_tA n.tracks.length m_tc) ∧ w.cell? ⟨B, i * 3 + 2, none⟩ = some (.slice m_sA n.shops.length m_sc))) (hC : (w.cell? ⟨B + 1, i * 6, none⟩ = some (.slice d_gA c.gauges.length d_gc) ∧ w.cell? ⟨B + 1, i * 6 + 1, none⟩ = some (.int .i64 c.size) ∧ w.cell? ⟨B + 1, i * 6 + 2, none⟩ = some (.int .i64 c.load) ∧ w.cell? ⟨B + 1, i * 6 + 3, none⟩ = some (.slice d_bA c.brakes.length d_bc) ∧ w.cell? ⟨B + 1, i * 6 + 4, none⟩ = some (.slice d_hA c.heats.length d_hc) ∧ w.cell? ⟨B + 1, i * 6 + 5, none⟩ = some (.bool c.hooks))) :
    Calls Try.prog 41 #[.agg #[.slice (some ⟨B, 0, none⟩) 5 5, .slice (some ⟨B + 1, 0, none⟩) 5 5, .slice (some ⟨B + 1 + 1, 0, none⟩) 5 5, .slice (some ⟨B + 1 + 1 + 1, 0, none⟩) 5 5, .slice (some ⟨B + 1 + 1 + 1 + 1, 0, none⟩) 5 5], .int .i64 i, .agg #[.int .i64 n.stops, .slice n_tA n.tracks.length n_tc, .slice n_sA n.shops.length n_sc], .agg #[.slice c_gA c.gauges.length c_gc, .int .i64 c.size, .int .i64 c.load, .slice c_bA c.brakes.length c_bc, .slice c_hA c.heats.length c_hc, .bool c.hooks]] w fun e w' => e = .returned (.bool true) ∧ Below w.heap.size w w' := by
  obtain ⟨m0, m1, m2, hb, hs⟩ := three_new w (.cells #[.slice (some ⟨B, 0, none⟩) 5 5, .slice (some ⟨B + 1, 0, none⟩) 5 5, .slice (some ⟨B + 1 + 1, 0, none⟩) 5 5, .slice (some ⟨B + 1 + 1 + 1, 0, none⟩) 5 5, .slice (some ⟨B + 1 + 1 + 1 + 1, 0, none⟩) 5 5] 60) (.cells #[.int .i64 n.stops, .slice n_tA n.tracks.length n_tc, .slice n_sA n.shops.length n_sc] 27) (.cells #[.slice c_gA c.gauges.length c_gc, .int .i64 c.size, .int .i64 c.load, .slice c_bA c.brakes.length c_bc, .slice c_hA c.heats.length c_hc, .bool c.hooks] 30)
  have hkp : ∀ W, Below (w.heap.size + 1 + 1 + 1) (((w.alloc (.cells #[.slice (some ⟨B, 0, none⟩) 5 5, .slice (some ⟨B + 1, 0, none⟩) 5 5, .slice (some ⟨B + 1 + 1, 0, none⟩) 5 5, .slice (some ⟨B + 1 + 1 + 1, 0, none⟩) 5 5, .slice (some ⟨B + 1 + 1 + 1 + 1, 0, none⟩) 5 5] 60)).alloc (.cells #[.int .i64 n.stops, .slice n_tA n.tracks.length n_tc, .slice n_sA n.shops.length n_sc] 27)).alloc (.cells #[.slice c_gA c.gauges.length c_gc, .int .i64 c.size, .int .i64 c.load, .slice c_bA c.brakes.length c_bc, .slice c_hA c.heats.length c_hc, .bool c.hooks] 30)) W → (W.cell? ⟨w.heap.size, 0, none⟩ = some (.slice (some ⟨B, 0, none⟩) 5 5) ∧ W.cell? ⟨w.heap.size, 1, none⟩ = some (.slice (some ⟨B + 1, 0, none⟩) 5 5)) ∧ (W.cell? ⟨w.heap.size + 1, 0, none⟩ = some (.int .i64 n.stops) ∧ W.cell? ⟨w.heap.size + 1, 1, none⟩ = some (.slice n_tA n.tracks.length n_tc) ∧ W.cell? ⟨w.heap.size + 1, 2, none⟩ = some (.slice n_sA n.shops.length n_sc)) ∧ (W.cell? ⟨w.heap.size + 1 + 1, 0, none⟩ = some (.slice c_gA c.gauges.length c_gc) ∧ W.cell? ⟨w.heap.size + 1 + 1, 1, none⟩ = some (.int .i64 c.size) ∧ W.cell? ⟨w.heap.size + 1 + 1, 2, none⟩ = some (.int .i64 c.load) ∧ W.cell? ⟨w.heap.size + 1 + 1, 3, none⟩ = some (.slice c_bA c.brakes.length c_bc) ∧ W.cell? ⟨w.heap.size + 1 + 1, 4, none⟩ = some (.slice c_hA c.heats.length c_hc) ∧ W.cell? ⟨w.heap.size + 1 + 1, 5, none⟩ = some (.bool c.hooks)) ∧ (W.cell? ⟨B, i * 3, none⟩ = some (.int .i64 n.stops) ∧ W.cell? ⟨B, i * 3 + 1, none⟩ = some (.slice m_tA n.tracks.length m_tc) ∧ W.cell? ⟨B, i * 3 + 2, none⟩ = some (.slice m_sA n.shops.length m_sc)) ∧ (W.cell? ⟨B + 1, i * 6, none⟩ = some (.slice d_gA c.gauges.length d_gc) ∧ W.cell? ⟨B + 1, i * 6 + 1, none⟩ = some (.int .i64 c.size) ∧ W.cell? ⟨B + 1, i * 6 + 2, none⟩ = some (.int .i64 c.load) ∧ W.cell? ⟨B + 1, i * 6 + 3, none⟩ = some (.slice d_bA c.brakes.length d_bc) ∧ W.cell? ⟨B + 1, i * 6 + 4, none⟩ = some (.slice d_hA c.heats.length d_hc) ∧ W.cell? ⟨B + 1, i * 6 + 5, none⟩ = some (.bool c.hooks)) := fun W hW => by
    have h0 := blk_below m0 hW (by omega)
    have h1 := blk_below m1 hW (by omega)
    have h2 := blk_below m2 hW (by omega)
    have hc : ∀ p : Addr, p.block < w.heap.size → W.cell? p = w.cell? p := fun p hp => (hW.cell (by omega)).trans (hb.cell hp)
    refine ⟨⟨blk_cell h0 0, blk_cell h0 1⟩, ⟨blk_cell h1 0, blk_cell h1 1, blk_cell h1 2⟩, ⟨blk_cell h2 0, blk_cell h2 1, blk_cell h2 2, blk_cell h2 3, blk_cell h2 4, blk_cell h2 5⟩, ?_, ?_⟩
    · have hq : ∀ j, W.cell? ⟨B, j, none⟩ = w.cell? ⟨B, j, none⟩ := fun j => hc ⟨B, j, none⟩ (by show B < _; omega)
      simp only [hq]
      exact hN
    · have hq : ∀ j, W.cell? ⟨B + 1, j, none⟩ = w.cell? ⟨B + 1, j, none⟩ := fun j => hc ⟨B + 1, j, none⟩ (by show B + 1 < _; omega)
      simp only [hq]
      exact hC
  have HN := Lib.hid ((hn.below hb).more (B' := w.heap.size + 1 + 1 + 1) (by omega))
  have HM := Lib.hid ((hm.below hb).more (B' := w.heap.size + 1 + 1 + 1) (by omega))
  have HR := Lib.hid ((hr.below hb).more (B' := w.heap.size + 1 + 1 + 1) (by omega))
  have HD := Lib.hid ((hd.below hb).more (B' := w.heap.size + 1 + 1 + 1) (by omega))
  have HS := Lib.hid hs
  have HB := Lib.hid hb
  have HKP := Lib.hid hkp
  have hi5 : (i : Int) < 5 := by omega
  clear hkp m0 m1 m2 hn hm hr hd hN hC hb hs
  go_enter Try.func41, Try.ntmps41
  go_wp2_with fail
  generalize (((w.alloc (.cells #[.slice (some ⟨B, 0, none⟩) 5 5, .slice (some ⟨B + 1, 0, none⟩) 5 5, .slice (some ⟨B + 1 + 1, 0, none⟩) 5 5, .slice (some ⟨B + 1 + 1 + 1, 0, none⟩) 5 5, .slice (some ⟨B + 1 + 1 + 1 + 1, 0, none⟩) 5 5] 60)).alloc (.cells #[.int .i64 n.stops, .slice n_tA n.tracks.length n_tc, .slice n_sA n.shops.length n_sc] 27)).alloc (.cells #[.slice c_gA c.gauges.length c_gc, .int .i64 c.size, .int .i64 c.load, .slice c_bA c.brakes.length c_bc, .slice c_hA c.heats.length c_hc, .bool c.hooks] 30)) = wt at *
  have hbd := (Below.refl (w.heap.size + 1 + 1 + 1) wt).drew
  have hS := HKP.out _ hbd
  have HSz : Hid (w.heap.size + 1 + 1 + 1 ≤ wt.drew.heap.size) := by show _ ≤ wt.heap.size; rw [HS.out]; exact Nat.le_refl _
  have HBD := Lib.hid hbd
  clear hbd
  go_region_held3 (fun W => (W.cell? ⟨w.heap.size, 0, none⟩ = some (.slice (some ⟨B, 0, none⟩) 5 5) ∧ W.cell? ⟨w.heap.size, 1, none⟩ = some (.slice (some ⟨B + 1, 0, none⟩) 5 5)) ∧ (W.cell? ⟨w.heap.size + 1, 0, none⟩ = some (.int .i64 n.stops) ∧ W.cell? ⟨w.heap.size + 1, 1, none⟩ = some (.slice n_tA n.tracks.length n_tc) ∧ W.cell? ⟨w.heap.size + 1, 2, none⟩ = some (.slice n_sA n.shops.length n_sc)) ∧ (W.cell? ⟨w.heap.size + 1 + 1, 0, none⟩ = some (.slice c_gA c.gauges.length c_gc) ∧ W.cell? ⟨w.heap.size + 1 + 1, 1, none⟩ = some (.int .i64 c.size) ∧ W.cell? ⟨w.heap.size + 1 + 1, 2, none⟩ = some (.int .i64 c.load) ∧ W.cell? ⟨w.heap.size + 1 + 1, 3, none⟩ = some (.slice c_bA c.brakes.length c_bc) ∧ W.cell? ⟨w.heap.size + 1 + 1, 4, none⟩ = some (.slice c_hA c.heats.length c_hc) ∧ W.cell? ⟨w.heap.size + 1 + 1, 5, none⟩ = some (.bool c.hooks)) ∧ (W.cell? ⟨B, i * 3, none⟩ = some (.int .i64 n.stops) ∧ W.cell? ⟨B, i * 3 + 1, none⟩ = some (.slice m_tA n.tracks.length m_tc) ∧ W.cell? ⟨B, i * 3 + 2, none⟩ = some (.slice m_sA n.shops.length m_sc)) ∧ (W.cell? ⟨B + 1, i * 6, none⟩ = some (.slice d_gA c.gauges.length d_gc) ∧ W.cell? ⟨B + 1, i * 6 + 1, none⟩ = some (.int .i64 c.size) ∧ W.cell? ⟨B + 1, i * 6 + 2, none⟩ = some (.int .i64 c.load) ∧ W.cell? ⟨B + 1, i * 6 + 3, none⟩ = some (.slice d_bA c.brakes.length d_bc) ∧ W.cell? ⟨B + 1, i * 6 + 4, none⟩ = some (.slice d_hA c.heats.length d_hc) ∧ W.cell? ⟨B + 1, i * 6 + 5, none⟩ = some (.bool c.hooks)))
    (first | go_keep | exact hS)
    (first
      | (go_at_call 86; refine (equalNet_any n n_tA n_sA n_tc n_sc m_tA m_sA m_tc m_sc wt.drew ((HN.out.below HBD.out).more HSz.out) ((HM.out.below HBD.out).more HSz.out) lt ls).mono ?_; rintro e w1 ⟨rfl, hb1⟩; have hb2 := HBD.out.trans (hb1.mono HSz.out); have hS := HKP.out _ hb2; have HB1 := Lib.hid hb2; have HSz1 : Hid (w.heap.size + 1 + 1 + 1 ≤ w1.heap.size) := Nat.le_trans HSz.out hb1.size; clear hb1 hb2)
      | (go_at_call 87; refine (equalCoach_any c c_gA c_bA c_hA c_gc c_bc c_hc d_gA d_bA d_hA d_gc d_bc d_hc w1 ((HR.out.below HB1.out).more HSz1.out) ((HD.out.below HB1.out).more HSz1.out) lg lb lh).mono ?_; rintro e w2 ⟨rfl, hb1⟩; have hb2 := HB1.out.trans (hb1.mono HSz1.out); have hS := HKP.out _ hb2; have HB2 := Lib.hid hb2; clear hb1 hb2))
  go_wp2_with fail
  go_ret
  exact ⟨rfl, HB.out.trans (HB2.out.mono (by omega))⟩
end Go.Proofs.Ytpbjpochjagicaa
