/- What the laws over five questions hold (by gen_qa.py). -/
import Derived.Test.YtpbjpochjagicaaGreatW83
import Derived.Test.YtpbjpochjagicaaGreatW63
import Derived.Test.YtpbjpochjagicaaGreatFl
import Derived.Deep.DeepCutAuto
import Derived.BigQuiet
namespace Go.Proofs.YtpbjpochjagicaaGreat
open Go.RowKit

/-- No more than twenty of a kind. -/
structure Some20 (n : Pl.Nt) (c : Pl.Cch) : Prop where
  lt : n.tracks.length ≤ 20
  ls : n.shops.length ≤ 20
  lg : c.gauges.length ≤ 20
  lb : c.brakes.length ≤ 20
  lh : c.heats.length ≤ 20
theorem few_of {n : Pl.Nt} {c : Pl.Cch} (h : largeIn n c = false) : Some20 n c := by
  simp [largeIn] at h
  obtain ⟨⟨⟨⟨h1, h2⟩, h3⟩, h4⟩, h5⟩ := h
  exact ⟨h1, h2, h3, h4, h5⟩
theorem Dealt.few {g B P Q : Nat} {w : World} {n : Pl.Nt} {n_tA n_sA : Option Addr} {n_tc n_sc : Nat} {c : Pl.Cch} {c_gA c_bA c_hA : Option Addr} {c_gc c_bc c_hc : Nat}
    (h : Dealt g B P Q w n n_tA n_sA n_tc n_sc c c_gA c_bA c_hA c_gc c_bc c_hc) : Some20 n c := ⟨by have := h.t8; omega, by have := h.s6; omega, by have := h.lg; omega, by have := h.lb; omega, by have := h.lh; omega⟩
/-- The questions as the loop holds them: in box X, with the bag in block g. -/
structure Asking (g B X base P Q bd : Nat) (w : World) (a : Pl.Nt) (a_tA a_sA : Option Addr) (a_tc a_sc : Nat) (z : Pl.Cch) (z_gA z_bA z_hA : Option Addr) (z_gc z_bc z_hc : Nat) (n : Pl.Nt) (n_tA n_sA : Option Addr) (n_tc n_sc : Nat) (c : Pl.Cch) (c_gA c_bA c_hA : Option Addr) (c_gc c_bc c_hc : Nat) (p1 p2 p3 fr ga ds : Int) : Prop where
  ask : w.heap[X]? = some (.cells #[.slice (some ⟨B, 0, none⟩) 5 5, .slice (some ⟨B + 1, 0, none⟩) 5 5, .slice (some ⟨B + 1 + 1, 0, none⟩) 5 5, .slice (some ⟨B + 1 + 1 + 1, 0, none⟩) 5 5, .slice (some ⟨B + 1 + 1 + 1 + 1, 0, none⟩) 5 5] 33 (0, 0))
  nb : w.heap[B]? = some (.cells #[.int .i64 a.stops, .slice a_tA a.tracks.length a_tc, .slice a_sA a.shops.length a_sc, .int .i64 n.stops, .slice n_tA n.tracks.length n_tc, .slice n_sA n.shops.length n_sc, .int .i64 n.stops, .slice n_tA n.tracks.length n_tc, .slice n_sA n.shops.length n_sc, .int .i64 a.stops, .slice a_tA a.tracks.length a_tc, .slice a_sA a.shops.length a_sc, .int .i64 n.stops, .slice n_tA n.tracks.length n_tc, .slice n_sA n.shops.length n_sc] 25 (0, 0))
  cb : w.heap[B + 1]? = some (.cells #[.slice z_gA z.gauges.length z_gc, .int .i64 z.size, .int .i64 z.load, .slice z_bA z.brakes.length z_bc, .slice z_hA z.heats.length z_hc, .bool z.hooks, .slice c_gA c.gauges.length c_gc, .int .i64 c.size, .int .i64 c.load, .slice c_bA c.brakes.length c_bc, .slice c_hA c.heats.length c_hc, .bool c.hooks, .slice z_gA z.gauges.length z_gc, .int .i64 z.size, .int .i64 z.load, .slice z_bA z.brakes.length z_bc, .slice z_hA z.heats.length z_hc, .bool z.hooks, .slice c_gA c.gauges.length c_gc, .int .i64 c.size, .int .i64 c.load, .slice c_bA c.brakes.length c_bc, .slice c_hA c.heats.length c_hc, .bool c.hooks, .slice c_gA c.gauges.length c_gc, .int .i64 c.size, .int .i64 c.load, .slice c_bA c.brakes.length c_bc, .slice c_hA c.heats.length c_hc, .bool c.hooks] 27 (0, 0))
  fb : w.heap[B + 1 + 1]? = some (.cells #[.int .i64 p1, .int .i64 fr, .int .i64 fr, .int .i64 p1, .int .i64 p1] 3 (0, 0))
  gb : w.heap[B + 1 + 1 + 1]? = some (.cells #[.int .i64 p2, .int .i64 ga, .int .i64 p2, .int .i64 ga, .int .i64 p2] 3 (0, 0))
  tb : w.heap[B + 1 + 1 + 1 + 1]? = some (.cells #[.int .i64 p3, .int .i64 ds, .int .i64 ds, .int .i64 p3, .int .i64 p3] 3 (0, 0))
  D : Dealt g base P Q w n n_tA n_sA n_tc n_sc c c_gA c_bA c_hA c_gc c_bc c_hc
  an : NReads w bd a a_tA a_sA a_tc a_sc
  zn : CReads w bd z z_gA z_bA z_hA z_gc z_bc z_hc
  few : Some20 a z
  gX : g ≠ X
  gB : g < B
  bg : bd ≤ g
section
variable {g B X base P Q bd : Nat} {w w' : World} {a : Pl.Nt} {a_tA a_sA : Option Addr} {a_tc a_sc : Nat} {z : Pl.Cch} {z_gA z_bA z_hA : Option Addr} {z_gc z_bc z_hc : Nat} {n : Pl.Nt} {n_tA n_sA : Option Addr} {n_tc n_sc : Nat} {c : Pl.Cch} {c_gA c_bA c_hA : Option Addr} {c_gc c_bc c_hc : Nat} {p1 p2 p3 fr ga ds : Int}
theorem Asking.kb (h : Asking g B X base P Q bd w a a_tA a_sA a_tc a_sc z z_gA z_bA z_hA z_gc z_bc z_hc n n_tA n_sA n_tc n_sc c c_gA c_bA c_hA c_gc c_bc c_hc p1 p2 p3 fr ga ds) (k : Kb g w w') : Asking g B X base P Q bd w' a a_tA a_sA a_tc a_sc z z_gA z_bA z_hA z_gc z_bc z_hc n n_tA n_sA n_tc n_sc c c_gA c_bA c_hA c_gc c_bc c_hc p1 p2 p3 fr ga ds :=
  have hg := h.D.bag.lt
  have hX := h.gX
  have hB := h.gB
  { h with
    ask := (k.block (lt_of_block h.ask) (by omega)).trans h.ask, nb := (k.block (lt_of_block h.nb) (by omega)).trans h.nb, cb := (k.block (lt_of_block h.cb) (by omega)).trans h.cb
    fb := (k.block (lt_of_block h.fb) (by omega)).trans h.fb, gb := (k.block (lt_of_block h.gb) (by omega)).trans h.gb, tb := (k.block (lt_of_block h.tb) (by omega)).trans h.tb
    D := h.D.kb k, an := h.an.below (k.below h.bg hg), zn := h.zn.below (k.below h.bg hg) }
theorem kb_of_below (hb : BagAt w g) (h : Below w.heap.size w w') : Kb g w w' := (Kb.refl hb).step h (Nat.le_refl _) hb.lt

/-- What question k < 5 holds. -/
theorem pick_q (Pn : Pl.Nt → Option Addr → Option Addr → Nat → Nat → Prop) (Pc : Pl.Cch → Option Addr → Option Addr → Option Addr → Nat → Nat → Nat → Prop) (h1 : w.heap[B]? = some (.cells #[.int .i64 a.stops, .slice a_tA a.tracks.length a_tc, .slice a_sA a.shops.length a_sc, .int .i64 n.stops, .slice n_tA n.tracks.length n_tc, .slice n_sA n.shops.length n_sc, .int .i64 n.stops, .slice n_tA n.tracks.length n_tc, .slice n_sA n.shops.length n_sc, .int .i64 a.stops, .slice a_tA a.tracks.length a_tc, .slice a_sA a.shops.length a_sc, .int .i64 n.stops, .slice n_tA n.tracks.length n_tc, .slice n_sA n.shops.length n_sc] 25 (0, 0))) (h2 : w.heap[B + 1]? = some (.cells #[.slice z_gA z.gauges.length z_gc, .int .i64 z.size, .int .i64 z.load, .slice z_bA z.brakes.length z_bc, .slice z_hA z.heats.length z_hc, .bool z.hooks, .slice c_gA c.gauges.length c_gc, .int .i64 c.size, .int .i64 c.load, .slice c_bA c.brakes.length c_bc, .slice c_hA c.heats.length c_hc, .bool c.hooks, .slice z_gA z.gauges.length z_gc, .int .i64 z.size, .int .i64 z.load, .slice z_bA z.brakes.length z_bc, .slice z_hA z.heats.length z_hc, .bool z.hooks, .slice c_gA c.gauges.length c_gc, .int .i64 c.size, .int .i64 c.load, .slice c_bA c.brakes.length c_bc, .slice c_hA c.heats.length c_hc, .bool c.hooks, .slice c_gA c.gauges.length c_gc, .int .i64 c.size, .int .i64 c.load, .slice c_bA c.brakes.length c_bc, .slice c_hA c.heats.length c_hc, .bool c.hooks] 27 (0, 0)))
    (h3 : w.heap[B + 1 + 1]? = some (.cells #[.int .i64 p1, .int .i64 fr, .int .i64 fr, .int .i64 p1, .int .i64 p1] 3 (0, 0))) (h4 : w.heap[B + 1 + 1 + 1]? = some (.cells #[.int .i64 p2, .int .i64 ga, .int .i64 p2, .int .i64 ga, .int .i64 p2] 3 (0, 0))) (h5 : w.heap[B + 1 + 1 + 1 + 1]? = some (.cells #[.int .i64 p3, .int .i64 ds, .int .i64 ds, .int .i64 p3, .int .i64 p3] 3 (0, 0)))
    (ha : Pn a a_tA a_sA a_tc a_sc) (hz : Pc z z_gA z_bA z_hA z_gc z_bc z_hc) (hn : Pn n n_tA n_sA n_tc n_sc) (hc : Pc c c_gA c_bA c_hA c_gc c_bc c_hc) (f1 : Some20 a z) (f2 : Some20 n c) (k : Nat) (hk : k < 5) :
    ∃ (m : Pl.Nt) (m_tA m_sA : Option Addr) (m_tc m_sc : Nat) (d : Pl.Cch) (d_gA d_bA d_hA : Option Addr) (d_gc d_bc d_hc : Nat) (x1 x2 x3 : Int), (w.cell? ⟨B, k * 3, none⟩ = some (.int .i64 m.stops) ∧ w.cell? ⟨B, k * 3 + 1, none⟩ = some (.slice m_tA m.tracks.length m_tc) ∧ w.cell? ⟨B, k * 3 + 2, none⟩ = some (.slice m_sA m.shops.length m_sc)) ∧ (w.cell? ⟨B + 1, k * 6, none⟩ = some (.slice d_gA d.gauges.length d_gc) ∧ w.cell? ⟨B + 1, k * 6 + 1, none⟩ = some (.int .i64 d.size) ∧ w.cell? ⟨B + 1, k * 6 + 2, none⟩ = some (.int .i64 d.load) ∧ w.cell? ⟨B + 1, k * 6 + 3, none⟩ = some (.slice d_bA d.brakes.length d_bc) ∧ w.cell? ⟨B + 1, k * 6 + 4, none⟩ = some (.slice d_hA d.heats.length d_hc) ∧ w.cell? ⟨B + 1, k * 6 + 5, none⟩ = some (.bool d.hooks)) ∧
      (w.cell? ⟨B + 1 + 1, k, none⟩ = some (.int .i64 x1) ∧ w.cell? ⟨B + 1 + 1 + 1, k, none⟩ = some (.int .i64 x2) ∧ w.cell? ⟨B + 1 + 1 + 1 + 1, k, none⟩ = some (.int .i64 x3)) ∧ Pn m m_tA m_sA m_tc m_sc ∧ Pc d d_gA d_bA d_hA d_gc d_bc d_hc ∧ Some20 m d := by
  obtain rfl | rfl | rfl | rfl | rfl : k = 0 ∨ k = 1 ∨ k = 2 ∨ k = 3 ∨ k = 4 := by omega
  · exact ⟨a, a_tA, a_sA, a_tc, a_sc, z, z_gA, z_bA, z_hA, z_gc, z_bc, z_hc, p1, p2, p3, ⟨blk_cell h1 0, blk_cell h1 1, blk_cell h1 2⟩, ⟨blk_cell h2 0, blk_cell h2 1, blk_cell h2 2, blk_cell h2 3, blk_cell h2 4, blk_cell h2 5⟩, ⟨blk_cell h3 0, blk_cell h4 0, blk_cell h5 0⟩, ha, hz, ⟨f1.lt, f1.ls, f1.lg, f1.lb, f1.lh⟩⟩
  · exact ⟨n, n_tA, n_sA, n_tc, n_sc, c, c_gA, c_bA, c_hA, c_gc, c_bc, c_hc, fr, ga, ds, ⟨blk_cell h1 3, blk_cell h1 4, blk_cell h1 5⟩, ⟨blk_cell h2 6, blk_cell h2 7, blk_cell h2 8, blk_cell h2 9, blk_cell h2 10, blk_cell h2 11⟩, ⟨blk_cell h3 1, blk_cell h4 1, blk_cell h5 1⟩, hn, hc, ⟨f2.lt, f2.ls, f2.lg, f2.lb, f2.lh⟩⟩
  · exact ⟨n, n_tA, n_sA, n_tc, n_sc, z, z_gA, z_bA, z_hA, z_gc, z_bc, z_hc, fr, p2, ds, ⟨blk_cell h1 6, blk_cell h1 7, blk_cell h1 8⟩, ⟨blk_cell h2 12, blk_cell h2 13, blk_cell h2 14, blk_cell h2 15, blk_cell h2 16, blk_cell h2 17⟩, ⟨blk_cell h3 2, blk_cell h4 2, blk_cell h5 2⟩, hn, hz, ⟨f2.lt, f2.ls, f1.lg, f1.lb, f1.lh⟩⟩
  · exact ⟨a, a_tA, a_sA, a_tc, a_sc, c, c_gA, c_bA, c_hA, c_gc, c_bc, c_hc, p1, ga, p3, ⟨blk_cell h1 9, blk_cell h1 10, blk_cell h1 11⟩, ⟨blk_cell h2 18, blk_cell h2 19, blk_cell h2 20, blk_cell h2 21, blk_cell h2 22, blk_cell h2 23⟩, ⟨blk_cell h3 3, blk_cell h4 3, blk_cell h5 3⟩, ha, hc, ⟨f1.lt, f1.ls, f2.lg, f2.lb, f2.lh⟩⟩
  · exact ⟨n, n_tA, n_sA, n_tc, n_sc, c, c_gA, c_bA, c_hA, c_gc, c_bc, c_hc, p1, p2, p3, ⟨blk_cell h1 12, blk_cell h1 13, blk_cell h1 14⟩, ⟨blk_cell h2 24, blk_cell h2 25, blk_cell h2 26, blk_cell h2 27, blk_cell h2 28, blk_cell h2 29⟩, ⟨blk_cell h3 4, blk_cell h4 4, blk_cell h5 4⟩, hn, hc, ⟨f2.lt, f2.ls, f2.lg, f2.lb, f2.lh⟩⟩

/-- .. in the loop, in whatever world the bag and new memory have made. -/
theorem Asking.pick (h : Asking g B X base P Q bd w a a_tA a_sA a_tc a_sc z z_gA z_bA z_hA z_gc z_bc z_hc n n_tA n_sA n_tc n_sc c c_gA c_bA c_hA c_gc c_bc c_hc p1 p2 p3 fr ga ds) (k : Nat) (hk : k < 5) :
    ∃ (m : Pl.Nt) (m_tA m_sA : Option Addr) (m_tc m_sc : Nat) (d : Pl.Cch) (d_gA d_bA d_hA : Option Addr) (d_gc d_bc d_hc : Nat) (x1 x2 x3 : Int), (∀ W, Kb g w W → ((W.cell? ⟨X, 0, none⟩ = some (.slice (some ⟨B, 0, none⟩) 5 5) ∧ W.cell? ⟨X, 1, none⟩ = some (.slice (some ⟨B + 1, 0, none⟩) 5 5) ∧ W.cell? ⟨X, 2, none⟩ = some (.slice (some ⟨B + 1 + 1, 0, none⟩) 5 5) ∧ W.cell? ⟨X, 3, none⟩ = some (.slice (some ⟨B + 1 + 1 + 1, 0, none⟩) 5 5) ∧ W.cell? ⟨X, 4, none⟩ = some (.slice (some ⟨B + 1 + 1 + 1 + 1, 0, none⟩) 5 5)) ∧ (W.cell? ⟨B, k * 3, none⟩ = some (.int .i64 m.stops) ∧ W.cell? ⟨B, k * 3 + 1, none⟩ = some (.slice m_tA m.tracks.length m_tc) ∧ W.cell? ⟨B, k * 3 + 2, none⟩ = some (.slice m_sA m.shops.length m_sc)) ∧ (W.cell? ⟨B + 1, k * 6, none⟩ = some (.slice d_gA d.gauges.length d_gc) ∧ W.cell? ⟨B + 1, k * 6 + 1, none⟩ = some (.int .i64 d.size) ∧ W.cell? ⟨B + 1, k * 6 + 2, none⟩ = some (.int .i64 d.load) ∧ W.cell? ⟨B + 1, k * 6 + 3, none⟩ = some (.slice d_bA d.brakes.length d_bc) ∧ W.cell? ⟨B + 1, k * 6 + 4, none⟩ = some (.slice d_hA d.heats.length d_hc) ∧ W.cell? ⟨B + 1, k * 6 + 5, none⟩ = some (.bool d.hooks)) ∧ (W.cell? ⟨B + 1 + 1, k, none⟩ = some (.int .i64 x1) ∧ W.cell? ⟨B + 1 + 1 + 1, k, none⟩ = some (.int .i64 x2) ∧ W.cell? ⟨B + 1 + 1 + 1 + 1, k, none⟩ = some (.int .i64 x3)))) ∧ (∀ W, Kb g w W → NReads W W.heap.size m m_tA m_sA m_tc m_sc) ∧ (∀ W, Kb g w W → CReads W W.heap.size d d_gA d_bA d_hA d_gc d_bc d_hc) ∧ Some20 m d := by
  obtain ⟨m, m_tA, m_sA, m_tc, m_sc, d, d_gA, d_bA, d_hA, d_gc, d_bc, d_hc, x1, x2, x3, hm3, hd6, hx3, hmr, hdr, hfew⟩ := pick_q (fun n tA sA tc sc => ∀ W, Kb g w W → NReads W W.heap.size n tA sA tc sc) (fun c gA bA hA gc bc hc => ∀ W, Kb g w W → CReads W W.heap.size c gA bA hA gc bc hc)
    h.nb h.cb h.fb h.gb h.tb (fun W q => (h.kb q).an.more (by have := h.bg; have := h.D.bag.lt; have := q.size; omega)) (fun W q => (h.kb q).zn.more (by have := h.bg; have := h.D.bag.lt; have := q.size; omega)) (fun W q => (h.kb q).D.nreads) (fun W q => (h.kb q).D.creads) h.few h.D.few k hk
  refine ⟨m, m_tA, m_sA, m_tc, m_sc, d, d_gA, d_bA, d_hA, d_gc, d_bc, d_hc, x1, x2, x3, fun W kb => ?_, hmr, hdr, hfew⟩
  have hX := lt_of_block h.ask
  have hB := lt_of_block h.nb
  have hC := lt_of_block h.cb
  have hF := lt_of_block h.fb
  have hG := lt_of_block h.gb
  have hT := lt_of_block h.tb
  have gX := h.gX
  have gB := h.gB
  have k0 : ∀ j, W.cell? ⟨X, j, none⟩ = w.cell? ⟨X, j, none⟩ := fun j => kb.cell (p := ⟨X, j, none⟩) hX (by show X ≠ g; omega)
  have k1 : ∀ j, W.cell? ⟨B, j, none⟩ = w.cell? ⟨B, j, none⟩ := fun j => kb.cell (p := ⟨B, j, none⟩) hB (by show B ≠ g; omega)
  have k2 : ∀ j, W.cell? ⟨B + 1, j, none⟩ = w.cell? ⟨B + 1, j, none⟩ := fun j => kb.cell (p := ⟨B + 1, j, none⟩) hC (by show B + 1 ≠ g; omega)
  have k3 : ∀ j, W.cell? ⟨B + 1 + 1, j, none⟩ = w.cell? ⟨B + 1 + 1, j, none⟩ := fun j => kb.cell (p := ⟨B + 1 + 1, j, none⟩) hF (by show B + 1 + 1 ≠ g; omega)
  have k4 : ∀ j, W.cell? ⟨B + 1 + 1 + 1, j, none⟩ = w.cell? ⟨B + 1 + 1 + 1, j, none⟩ := fun j => kb.cell (p := ⟨B + 1 + 1 + 1, j, none⟩) hG (by show B + 1 + 1 + 1 ≠ g; omega)
  have k5 : ∀ j, W.cell? ⟨B + 1 + 1 + 1 + 1, j, none⟩ = w.cell? ⟨B + 1 + 1 + 1 + 1, j, none⟩ := fun j => kb.cell (p := ⟨B + 1 + 1 + 1 + 1, j, none⟩) hT (by show B + 1 + 1 + 1 + 1 ≠ g; omega)
  simp only [k0, k1, k2, k3, k4, k5]
  exact ⟨⟨blk_cell h.ask 0, blk_cell h.ask 1, blk_cell h.ask 2, blk_cell h.ask 3, blk_cell h.ask 4⟩, hm3, hd6, hx3⟩
end

/-- The copies of a question's net and car, in boxes P and Q. -/
structure CopyAt (g : Nat) (w wx : World) (P2 Q2 : Nat) (m : Pl.Nt) (e_tA e_sA : Option Addr) (e_tc e_sc : Nat) (d : Pl.Cch) (f_gA f_bA f_hA : Option Addr) (f_gc f_bc f_hc : Nat) : Prop where
  net : wx.heap[P2]? = some (.cells #[.int .i64 m.stops, .slice e_tA m.tracks.length e_tc, .slice e_sA m.shops.length e_sc] 25 (0, 0))
  car : wx.heap[Q2]? = some (.cells #[.slice f_gA d.gauges.length f_gc, .int .i64 d.size, .int .i64 d.load, .slice f_bA d.brakes.length f_bc, .slice f_hA d.heats.length f_hc, .bool d.hooks] 27 (0, 0))
  tr : OwnTrks wx w.heap.size e_tA e_tc m.tracks
  sh : OwnInts wx w.heap.size e_sA e_sc m.shops
  ga : OwnInts wx w.heap.size f_gA f_gc d.gauges
  br : OwnInts wx w.heap.size f_bA f_bc d.brakes
  he : OwnInts wx w.heap.size f_hA f_hc d.heats
  kb : Kb g w wx
  gl : g < w.heap.size
  pl : w.heap.size ≤ P2
  ql : w.heap.size ≤ Q2
  few : Some20 m d
section
variable {g P2 Q2 : Nat} {w wx w' : World} {m : Pl.Nt} {e_tA e_sA : Option Addr} {e_tc e_sc : Nat} {d : Pl.Cch} {f_gA f_bA f_hA : Option Addr} {f_gc f_bc f_hc : Nat}
theorem CopyAt.step (h : CopyAt g w wx P2 Q2 m e_tA e_sA e_tc e_sc d f_gA f_bA f_hA f_gc f_bc f_hc) (k : Kb g wx w') : CopyAt g w w' P2 Q2 m e_tA e_sA e_tc e_sc d f_gA f_bA f_hA f_gc f_bc f_hc :=
  have hg := h.gl
  have hp := h.pl
  have hq := h.ql
  { h with
    net := (k.block (lt_of_block h.net) (by omega)).trans h.net, car := (k.block (lt_of_block h.car) (by omega)).trans h.car
    tr := k.row h.gl h.tr, sh := k.row h.gl h.sh, ga := k.row h.gl h.ga, br := k.row h.gl h.br, he := k.row h.gl h.he, kb := h.kb.trans k }
theorem CopyAt.nreads (h : CopyAt g w wx P2 Q2 m e_tA e_sA e_tc e_sc d f_gA f_bA f_hA f_gc f_bc f_hc) : NReads wx wx.heap.size m e_tA e_sA e_tc e_sc := ⟨h.tr.trks, h.sh.ints, by have := h.few.lt; omega, by have := h.few.ls; omega⟩
theorem CopyAt.creads (h : CopyAt g w wx P2 Q2 m e_tA e_sA e_tc e_sc d f_gA f_bA f_hA f_gc f_bc f_hc) : CReads wx wx.heap.size d f_gA f_bA f_hA f_gc f_bc f_hc := ⟨h.ga.ints, h.br.ints, h.he.ints, by have := h.few.lg; omega, by have := h.few.lb; omega, by have := h.few.lh; omega⟩
theorem CopyAt.cells (h : CopyAt g w wx P2 Q2 m e_tA e_sA e_tc e_sc d f_gA f_bA f_hA f_gc f_bc f_hc) : ∀ W, Kb g wx W → ((W.cell? ⟨P2, 0, none⟩ = some (.int .i64 m.stops) ∧ W.cell? ⟨P2, 1, none⟩ = some (.slice e_tA m.tracks.length e_tc) ∧ W.cell? ⟨P2, 2, none⟩ = some (.slice e_sA m.shops.length e_sc)) ∧ (W.cell? ⟨Q2, 0, none⟩ = some (.slice f_gA d.gauges.length f_gc) ∧ W.cell? ⟨Q2, 1, none⟩ = some (.int .i64 d.size) ∧ W.cell? ⟨Q2, 2, none⟩ = some (.int .i64 d.load) ∧ W.cell? ⟨Q2, 3, none⟩ = some (.slice f_bA d.brakes.length f_bc) ∧ W.cell? ⟨Q2, 4, none⟩ = some (.slice f_hA d.heats.length f_hc) ∧ W.cell? ⟨Q2, 5, none⟩ = some (.bool d.hooks))) := fun W k => by
  have h2 := h.step k
  exact ⟨⟨blk_cell h2.net 0, blk_cell h2.net 1, blk_cell h2.net 2⟩, blk_cell h2.car 0, blk_cell h2.car 1, blk_cell h2.car 2, blk_cell h2.car 3, blk_cell h2.car 4, blk_cell h2.car 5⟩
theorem trk_ne {w : World} {base X T : Nat} {A : Option Addr} {c k : Nat} {xs : List Pl.Trk} {z : Array Value} (h : OwnTrks w base A c xs) (hX : w.heap[X]? = some (.cells z T (0, 0))) (hT : T ≠ 107) : (Value.slice A k c).ownBlock ≠ some X := fun e => by
  rcases h.2 with ⟨hv, _⟩ | ⟨q, cap, cur, hv, hb, hh, _⟩
  · injection hv with hv _ _; subst hv; simp [Value.ownBlock] at e
  · injection hv with hv _ _
    subst hv
    simp [Value.ownBlock] at e
    subst e
    rw [hX] at hh
    injection hh with hh
    injection hh with _ hh _
    exact hT hh
theorem int_apart {w : World} {base X T : Nat} {A : Option Addr} {c k : Nat} {xs : List Int} {z : Array Value} (h : OwnInts w base A c xs) (hX : w.heap[X]? = some (.cells z T (0, 0))) (hT : T ≠ 3) : (Value.slice A k c).ownBlock ≠ some X := fun e => by
  rcases h.2 with ⟨hv, _⟩ | ⟨q, cap, cur, hv, hb, hh, _⟩
  · injection hv with hv _ _; subst hv; simp [Value.ownBlock] at e
  · injection hv with hv _ _
    subst hv
    simp [Value.ownBlock] at e
    subst e
    rw [hX] at hh
    injection hh with hh
    injection hh with _ hh _
    exact hT hh
theorem blk_other {w : World} {b x i : Nat} {o : Obj} (h : w.heap[b]? = some o) (hne : b ≠ x) (v : Value) : (w.setCell ⟨x, i, none⟩ v).heap[b]? = some o := (Below.heap_setCell _ _ _ _ (fun e => hne e)).trans h
/-- The nine cells are put in: the copies stand. -/
theorem copyAt_of {W : World} (hP : W.heap[P2]? = some (.cells #[.int .i64 0, .slice none 0 0, .slice none 0 0] 25 (0, 0))) (hQ : W.heap[Q2]? = some (.cells #[.slice none 0 0, .int .i64 0, .int .i64 0, .slice none 0 0, .slice none 0 0, .bool false] 27 (0, 0)))
    (tr : OwnTrks W w.heap.size e_tA e_tc m.tracks) (sh : OwnInts W w.heap.size e_sA e_sc m.shops) (ga : OwnInts W w.heap.size f_gA f_gc d.gauges) (br : OwnInts W w.heap.size f_bA f_bc d.brakes) (he : OwnInts W w.heap.size f_hA f_hc d.heats)
    (hk : Kb g w W) (hb : BagAt w g) (pl : w.heap.size ≤ P2) (ql : w.heap.size ≤ Q2) (few : Some20 m d) :
    CopyAt g w (((((((((W.setCell ⟨P2, 0, none⟩ (.int .i64 m.stops)).setCell ⟨P2, 1, none⟩ (.slice e_tA m.tracks.length e_tc)).setCell ⟨P2, 2, none⟩ (.slice e_sA m.shops.length e_sc)).setCell ⟨Q2, 0, none⟩ (.slice f_gA d.gauges.length f_gc)).setCell ⟨Q2, 1, none⟩ (.int .i64 d.size)).setCell ⟨Q2, 2, none⟩ (.int .i64 d.load)).setCell ⟨Q2, 3, none⟩ (.slice f_bA d.brakes.length f_bc)).setCell ⟨Q2, 4, none⟩ (.slice f_hA d.heats.length f_hc)).setCell ⟨Q2, 5, none⟩ (.bool d.hooks)) P2 Q2 m e_tA e_sA e_tc e_sc d f_gA f_bA f_hA f_gc f_bc f_hc := by
  have hne : P2 ≠ Q2 := fun e => by
    subst e
    rw [hP] at hQ
    injection hQ with hQ
    injection hQ with _ hQ _
    exact absurd hQ (by decide)
  have kP : ∀ {V : World} {o : Obj} (h : V.heap[P2]? = some o) (i : Nat) (v : Value), (V.setCell ⟨Q2, i, none⟩ v).heap[P2]? = some o := fun h i v => blk_other h hne v
  have kQ : ∀ {V : World} {o : Obj} (h : V.heap[Q2]? = some o) (i : Nat) (v : Value), (V.setCell ⟨P2, i, none⟩ v).heap[Q2]? = some o := fun h i v => blk_other h (Ne.symm hne) v
  refine { net := ?_, car := ?_, tr := ?_, sh := ?_, ga := ?_, br := ?_, he := ?_, kb := ?_, gl := hb.lt, pl := pl, ql := ql, few := few }
  · have h1 := blk_set (blk_set (blk_set hP (i := 0) (.int .i64 m.stops)) (i := 1) (.slice e_tA m.tracks.length e_tc)) (i := 2) (.slice e_sA m.shops.length e_sc)
    exact kP (kP (kP (kP (kP (kP (by simpa using h1) _ _) _ _) _ _) _ _) _ _) _ _
  · have h1 := blk_set (blk_set (blk_set (blk_set (blk_set (blk_set (kQ (kQ (kQ hQ 0 (.int .i64 m.stops)) 1 (.slice e_tA m.tracks.length e_tc)) 2 (.slice e_sA m.shops.length e_sc)) (i := 0) (.slice f_gA d.gauges.length f_gc)) (i := 1) (.int .i64 d.size)) (i := 2) (.int .i64 d.load)) (i := 3) (.slice f_bA d.brakes.length f_bc)) (i := 4) (.slice f_hA d.heats.length f_hc)) (i := 5) (.bool d.hooks)
    simpa using h1
  · have p := trk_ne (k := m.tracks.length) tr hP (by decide)
    have q := trk_ne (k := m.tracks.length) tr hQ (by decide)
    exact ownsRow_setCell_other (ownsRow_setCell_other (ownsRow_setCell_other (ownsRow_setCell_other (ownsRow_setCell_other (ownsRow_setCell_other (ownsRow_setCell_other (ownsRow_setCell_other (ownsRow_setCell_other tr p _) p _) p _) q _) q _) q _) q _) q _) q _
  · have p := int_apart (k := m.shops.length) sh hP (by decide)
    have q := int_apart (k := m.shops.length) sh hQ (by decide)
    exact ownsRow_setCell_other (ownsRow_setCell_other (ownsRow_setCell_other (ownsRow_setCell_other (ownsRow_setCell_other (ownsRow_setCell_other (ownsRow_setCell_other (ownsRow_setCell_other (ownsRow_setCell_other sh p _) p _) p _) q _) q _) q _) q _) q _) q _
  · have p := int_apart (k := d.gauges.length) ga hP (by decide)
    have q := int_apart (k := d.gauges.length) ga hQ (by decide)
    exact ownsRow_setCell_other (ownsRow_setCell_other (ownsRow_setCell_other (ownsRow_setCell_other (ownsRow_setCell_other (ownsRow_setCell_other (ownsRow_setCell_other (ownsRow_setCell_other (ownsRow_setCell_other ga p _) p _) p _) q _) q _) q _) q _) q _) q _
  · have p := int_apart (k := d.brakes.length) br hP (by decide)
    have q := int_apart (k := d.brakes.length) br hQ (by decide)
    exact ownsRow_setCell_other (ownsRow_setCell_other (ownsRow_setCell_other (ownsRow_setCell_other (ownsRow_setCell_other (ownsRow_setCell_other (ownsRow_setCell_other (ownsRow_setCell_other (ownsRow_setCell_other br p _) p _) p _) q _) q _) q _) q _) q _) q _
  · have p := int_apart (k := d.heats.length) he hP (by decide)
    have q := int_apart (k := d.heats.length) he hQ (by decide)
    exact ownsRow_setCell_other (ownsRow_setCell_other (ownsRow_setCell_other (ownsRow_setCell_other (ownsRow_setCell_other (ownsRow_setCell_other (ownsRow_setCell_other (ownsRow_setCell_other (ownsRow_setCell_other he p _) p _) p _) q _) q _) q _) q _) q _) q _
  · exact ((((((((hk.setCell pl hb.lt _).setCell pl hb.lt _).setCell pl hb.lt _).setCell ql hb.lt _).setCell ql hb.lt _).setCell ql hb.lt _).setCell ql hb.lt _).setCell ql hb.lt _).setCell ql hb.lt _
end

def Z27o : Obj := .cells #[.int .i64 0, .slice none 0 0, .slice none 0 0] 25 (0, 0)
def Z30o : Obj := .cells #[.slice none 0 0, .int .i64 0, .int .i64 0, .slice none 0 0, .slice none 0 0, .bool false] 27 (0, 0)
/-- What the four operations of the copies' region leave: 5 the net, 11 the car, 12 and 13 the boxes. -/
def CopyF (wr : World) (m : Pl.Nt) (d : Pl.Cch) (j : Nat) (v : Value) (W : World) : Prop :=
  (j = 5 → ∃ (e_tA e_sA : Option Addr) (e_tc e_sc : Nat), v = .agg #[.int .i64 m.stops, .slice e_tA m.tracks.length e_tc, .slice e_sA m.shops.length e_sc] ∧ OwnTrks W wr.heap.size e_tA e_tc m.tracks ∧ OwnInts W wr.heap.size e_sA e_sc m.shops) ∧
  (j = 11 → ∃ (f_gA f_bA f_hA : Option Addr) (f_gc f_bc f_hc : Nat), v = .agg #[.slice f_gA d.gauges.length f_gc, .int .i64 d.size, .int .i64 d.load, .slice f_bA d.brakes.length f_bc, .slice f_hA d.heats.length f_hc, .bool d.hooks] ∧ OwnInts W wr.heap.size f_gA f_gc d.gauges ∧ OwnInts W wr.heap.size f_bA f_bc d.brakes ∧ OwnInts W wr.heap.size f_hA f_hc d.heats) ∧
  (j = 12 → ∃ P2, v = .pointer (some ⟨P2, 0, none⟩) ∧ wr.heap.size ≤ P2 ∧ W.heap[P2]? = some Z27o) ∧
  (j = 13 → ∃ Q2, v = .pointer (some ⟨Q2, 0, none⟩) ∧ wr.heap.size ≤ Q2 ∧ W.heap[Q2]? = some Z30o)
theorem CopyF.step {wr W W' : World} {m : Pl.Nt} {d : Pl.Cch} {j : Nat} {v : Value} (hb : Below W.heap.size W W') (h : CopyF wr m d j v W) : CopyF wr m d j v W' :=
  ⟨fun e => by obtain ⟨a1, a2, a3, a4, h0, h1, h2⟩ := h.1 e; exact ⟨a1, a2, a3, a4, h0, row_below h1 hb (Nat.le_refl _), row_below h2 hb (Nat.le_refl _)⟩,
   fun e => by obtain ⟨a1, a2, a3, a4, a5, a6, h0, h1, h2, h3⟩ := h.2.1 e; exact ⟨a1, a2, a3, a4, a5, a6, h0, row_below h1 hb (Nat.le_refl _), row_below h2 hb (Nat.le_refl _), row_below h3 hb (Nat.le_refl _)⟩,
   fun e => by obtain ⟨p, h0, h1, h2⟩ := h.2.2.1 e; exact ⟨p, h0, h1, (hb.block p (lt_of_block h2)).trans h2⟩,
   fun e => by obtain ⟨p, h0, h1, h2⟩ := h.2.2.2 e; exact ⟨p, h0, h1, (hb.block p (lt_of_block h2)).trans h2⟩⟩
theorem CopyF.net {wr W : World} {m : Pl.Nt} {d : Pl.Cch} {v : Value} (h : ∃ (e_tA e_sA : Option Addr) (e_tc e_sc : Nat), v = .agg #[.int .i64 m.stops, .slice e_tA m.tracks.length e_tc, .slice e_sA m.shops.length e_sc] ∧ OwnTrks W wr.heap.size e_tA e_tc m.tracks ∧ OwnInts W wr.heap.size e_sA e_sc m.shops) : CopyF wr m d 5 v W :=
  ⟨fun _ => h, fun e => absurd e (by decide), fun e => absurd e (by decide), fun e => absurd e (by decide)⟩
theorem CopyF.car {wr W : World} {m : Pl.Nt} {d : Pl.Cch} {v : Value} (h : ∃ (f_gA f_bA f_hA : Option Addr) (f_gc f_bc f_hc : Nat), v = .agg #[.slice f_gA d.gauges.length f_gc, .int .i64 d.size, .int .i64 d.load, .slice f_bA d.brakes.length f_bc, .slice f_hA d.heats.length f_hc, .bool d.hooks] ∧ OwnInts W wr.heap.size f_gA f_gc d.gauges ∧ OwnInts W wr.heap.size f_bA f_bc d.brakes ∧ OwnInts W wr.heap.size f_hA f_hc d.heats) : CopyF wr m d 11 v W :=
  ⟨fun e => absurd e (by decide), fun _ => h, fun e => absurd e (by decide), fun e => absurd e (by decide)⟩
theorem CopyF.box {wr W : World} {m : Pl.Nt} {d : Pl.Cch} {v : Value} (h : ∃ P2, v = .pointer (some ⟨P2, 0, none⟩) ∧ wr.heap.size ≤ P2 ∧ W.heap[P2]? = some Z27o) : CopyF wr m d 12 v W :=
  ⟨fun e => absurd e (by decide), fun e => absurd e (by decide), fun _ => h, fun e => absurd e (by decide)⟩
theorem CopyF.box2 {wr W : World} {m : Pl.Nt} {d : Pl.Cch} {v : Value} (h : ∃ Q2, v = .pointer (some ⟨Q2, 0, none⟩) ∧ wr.heap.size ≤ Q2 ∧ W.heap[Q2]? = some Z30o) : CopyF wr m d 13 v W :=
  ⟨fun e => absurd e (by decide), fun e => absurd e (by decide), fun e => absurd e (by decide), fun _ => h⟩
theorem ints_step {w w' : World} {A : Option Addr} {xs : List Int} (h : Ints w w.heap.size A xs) (hb : Below w.heap.size w w') : Ints w' w'.heap.size A xs := (h.below hb).more hb.size
theorem barred_len (c : Pl.Cch) (t : Pl.Trk) : (Pl.barred c t).length ≤ 6 := by
  unfold Pl.barred
  simp only [List.length_append]
  have h : ∀ (p : Prop) [Decidable p] (x : Int), (if p then [x] else []).length ≤ 1 := fun p _ x => by split <;> simp
  have h2 : ∀ (p : Prop) [Decidable p] (x : Int), (if p then [] else [x]).length ≤ 1 := fun p _ x => by split <;> simp
  have a1 := h2 (t.gauge ∈ c.gauges) 1
  have a2 := h (t.room < c.size) 2
  have a3 := h (t.load < c.load) 3
  have a4 := h (t.brake ≠ 0 ∧ t.brake ∉ c.brakes) 4
  have a5 := h (t.heat ≠ 0 ∧ t.heat ∉ c.heats) 5
  have a6 := h (t.ferry = true ∧ c.hooks = false) 6
  omega
theorem barsOf_len (n : Pl.Nt) (c : Pl.Cch) (k : Int) : (barsOf n c k).1.length ≤ 1000 := by
  unfold barsOf
  split
  · simp
  · split
    · simp
    · have := barred_len c (n.tracks.getD k.toNat default)
      simp only
      omega
theorem openOut_len {n : Pl.Nt} {c : Pl.Cch} (h : n.tracks.length ≤ 20) : (openOut n c).1.length ≤ 1000 := by
  have := openTo_length n c n.tracks.length
  unfold openOut
  split
  · simp
  · show (openTo n c n.tracks.length).length ≤ 1000
    omega
end Go.Proofs.YtpbjpochjagicaaGreat
