/- Walks: along a way; First. -/
import Derived.Test.YtpbjpochjagicaaW8
namespace Go.Proofs.Ytpbjpochjagicaa
open Go.RowKit

theorem CarAt.drew {w : World} {X N : Nat} (c : Pl.Cch) (c_gA c_bA c_hA : Option Addr) (c_gc c_bc c_hc : Nat) (n : Pl.Nt) (n_tA n_sA : Option Addr) (n_tc n_sc : Nat) {rA : Option Addr} {rl rc : Nat} (h : CarAt w X N c c_gA c_bA c_hA c_gc c_bc c_hc n n_tA n_sA n_tc n_sc rA rl rc) : CarAt w.drew X N c c_gA c_bA c_hA c_gc c_bc c_hc n n_tA n_sA n_tc n_sc rA rl rc := ⟨h.car, h.net⟩
theorem along_step {n : Pl.Nt} {c : Pl.Cch} {p : Pl.Place} {way : List Int} {k : Nat} {i ch : Int} (hk : k < way.length) :
    Pl.along n c p (way.drop k) i ch = if (Pl.run n c [] p way[k].toNat).2.2 ≠ 0 then (ch, i, (Pl.run n c [] p way[k].toNat).2.2)
      else Pl.along n c (Pl.run n c [] p way[k].toNat).1 (way.drop (k + 1)) (i + 1) (ch + if (Pl.run n c [] p way[k].toNat).2.1 then 1 else 0) := by
  rw [List.drop_eq_getElem_cons hk, Pl.along]
theorem blk_set {w : World} {b i : Nat} {t : TypeId} {cs : Array Value} (h : w.heap[b]? = some (.cells cs t (0, 0))) (u : Value) : (w.setCell ⟨b, i, none⟩ u).heap[b]? = some (.cells (cs.setIfInBounds i u) t (0, 0)) := by
  simp [World.setCell, Array.getElem?_modify, h]
theorem blk_set2 {w : World} {b : Nat} {t : TypeId} {x y : Value} (h : w.heap[b]? = some (.cells #[x, y] t (0, 0))) (u v : Value) : ((w.setCell ⟨b, 0, none⟩ u).setCell ⟨b, 1, none⟩ v).heap[b]? = some (.cells #[u, v] t (0, 0)) := by
  have := blk_set (blk_set (i := 0) h u) (i := 1) v
  simpa using this
theorem size_setCell (w : World) (a : Addr) (v : Value) : (w.setCell a v).heap.size = w.heap.size := by simp [World.setCell]
theorem blk_alloc {w : World} {b : Nat} {o : Obj} (h : w.heap[b]? = some o) (o' : Obj) : (w.alloc o').heap[b]? = some o := (Below.heap_alloc w o' b (lt_of_block h)).trans h
theorem blk_below {w w' : World} {b B : Nat} {o : Obj} (h : w.heap[b]? = some o) (hb : Below B w w') (hB : b < B) : w'.heap[b]? = some o := (hb.block b hB).trans h
def alongVal (r : Int × Int × Int) : Value := .tuple #[.int .i64 r.1, .int .i64 r.2.1, .int .i64 r.2.2]

set_option maxRecDepth 100000 in
set_option maxHeartbeats 4000000 in
theorem along_any (X N : Nat) (c : Pl.Cch) (c_gA c_bA c_hA : Option Addr) (c_gc c_bc c_hc : Nat) (n : Pl.Nt) (n_tA n_sA : Option Addr) (n_tc n_sc : Nat) (p0 : Pl.Place) (wA : Option Addr) (wc : Nat) (way : List Int) (hway : ∀ x ∈ way, 0 ≤ x ∧ x < n.tracks.length) (w : World) (h : CarAt w X N c c_gA c_bA c_hA c_gc c_bc c_hc n n_tA n_sA n_tc n_sc none 0 0)
    (hr : CReads w w.heap.size c c_gA c_bA c_hA c_gc c_bc c_hc) (hn : NReads w w.heap.size n n_tA n_sA n_tc n_sc) (hw : Ints w w.heap.size wA way) (hwl : way.length ≤ 140737488355328) :
    Calls Try.prog 79 #[.pointer (some ⟨X, 0, none⟩), .agg #[.int .i64 p0.1, .int .i64 p0.2], .slice wA way.length wc] w fun e w' => e = .returned (alongVal (Pl.along n c p0 way 0 0)) ∧ Below w.heap.size w w' := by
  have hXs : X < w.heap.size := h.ltX
  have hNs : N < w.heap.size := h.ltN
  have Hc := Lib.hid h; have Hr := Lib.hid hr; have Hn := Lib.hid hn; clear h hr hn
  have hform := hw.form
  clear hw
  have hbx : (w.alloc (.cells #[.int .i64 p0.1, .int .i64 p0.2] 93)).heap[w.heap.size]? = some (.cells #[.int .i64 p0.1, .int .i64 p0.2] 93 (0, 0)) := heap_alloc_new w _
  rcases hform with rfl | ⟨b, off, rfl, hbw, hcell⟩
  · go_enter Try.func79, Try.ntmps79
    go_wp2
    go_loop [6, 16] (fun v i => v = .int .i64 0 ∧ i = .int .i64 0) (fun _ _ => 0)
    case atStart => exact ⟨rfl, rfl⟩
    case round =>
      obtain ⟨rfl, rfl⟩ := hrel
      go_wp2
      go_ret3
      exact ⟨rfl, (Below.refl _ _).alloc (Nat.le_refl _) _⟩
  · have hR0 : Hid (Pl.along n c p0 way 0 0 = Pl.along n c p0 (way.drop 0) ((0 : Nat) : Int) 0) := rfl
    have Hbx := Lib.hid hbx; clear hbx
    go_enter Try.func79, Try.ntmps79
    go_wp2
    go_loopw [6, 16] (fun v i wr => ∃ (k : Nat) (p : Pl.Place) (ch : Int), k ≤ way.length ∧ i = .int .i64 k ∧ v = .int .i64 ch ∧ 0 ≤ ch ∧ ch ≤ k ∧ Below w.heap.size w wr ∧ Hid (wr.heap[w.heap.size]? = some (.cells #[.int .i64 p.1, .int .i64 p.2] 93 (0, 0))) ∧
      Hid (Pl.along n c p0 way 0 0 = Pl.along n c p (way.drop k) k ch)) (fun _ i _ => way.length - (intOf i).toNat)
    case atStart => exact ⟨0, p0, 0, Nat.zero_le _, rfl, rfl, by omega, by omega, (Below.refl _ _).alloc (Nat.le_refl _) _, Hbx.out, hR0⟩
    case round =>
      obtain ⟨k, p, ch, hk, rfl, rfl, hc0, hc1, hbel, hblk, hRk⟩ := hrel
      clear hR0 Hbx
      obtain ⟨ps, pg⟩ := p
      by_cases hlt : k < way.length
      · have hck : wr.cell? ⟨b, off + k, none⟩ = some (.int .i64 way[k]) := (hbel.cell (p := ⟨b, off + k, none⟩) hbw).trans (hcell k hlt)
        have hx := hway _ (List.getElem_mem hlt)
        have hst := along_step (n := n) (c := c) (p := (ps, pg)) (i := k) (ch := ch) hlt
        clear hcell
        generalize way[k] = x at hck hx hst
        obtain ⟨m, rfl⟩ : ∃ m : Nat, x = m := ⟨x.toNat, by omega⟩
        rw [Int.toNat_natCast] at hst
        have hm : m < n.tracks.length := by omega
        have q0 : wr.cell? ⟨w.heap.size, 0, none⟩ = some (.int .i64 ps) := blk_cell hblk.out 0
        have q1 : wr.cell? ⟨w.heap.size, 1, none⟩ = some (.int .i64 pg) := blk_cell hblk.out 1
        have hsz : w.heap.size < wr.heap.size := lt_of_block hblk.out
        have hrun := run_any X N c c_gA c_bA c_hA c_gc c_bc c_hc n n_tA n_sA n_tc n_sc none [] 0 (ps, pg) m hm wr (Hc.out.below hbel hXs hNs) ((Hr.out.below hbel).more hbel.size) ((Hn.out.below hbel).more hbel.size) (Ints.nil _ _ _) (by simp)
        generalize hrv : Pl.run n c [] (ps, pg) m = r at hrun hst
        obtain ⟨⟨s, g⟩, chg, bar⟩ := r
        simp only [runVal] at hrun
        simp only at hst
        have HR := Lib.hid hrun
        clear hrun hrv
        by_cases hb0 : bar = 0
        · subst hb0
          rw [if_neg (by simp)] at hst
          cases chg
          · have hN : Hid (Pl.along n c p0 way 0 0 = Pl.along n c (s, g) (way.drop (k + 1)) ((k + 1 : Nat) : Int) ch) := by show _ = _; rw [hRk.out, hst]; simp
            clear hst hRk
            go_wp2_with (go_at_call 75; refine HR.out.mono ?_; rintro e w1 ⟨rfl, hb1⟩; have m1 := Lib.hid ((hb1.block _ hsz).trans hblk.out); have hs1 : w.heap.size < w1.heap.size := lt_of_block m1.out; have z0 : w1.cell? ⟨w.heap.size, 0, none⟩ = some (.int .i64 ps) := blk_cell m1.out 0; have z1 : w1.cell? ⟨w.heap.size, 1, none⟩ = some (.int .i64 pg) := blk_cell m1.out 1; have zf : w1.frozen? ⟨w.heap.size, 0, none⟩ = false := blk_frozen m1.out 0; have zf1 : w1.frozen? ⟨w.heap.size, 1, none⟩ = false := blk_frozen m1.out 1)
            go_roundw
            case rel => exact ⟨k + 1, (s, g), ch, by omega, by go_num, rfl, hc0, by omega, (((hbel.trans (hb1.mono (by omega))).setCell (Nat.le_refl _) _).setCell (Nat.le_refl _) _).alloc (by rw [size_setCell, size_setCell]; omega) _, blk_alloc (blk_set2 m1.out _ _) _, hN⟩
            case measure => simp [intOf]; omega
          · have hN : Hid (Pl.along n c p0 way 0 0 = Pl.along n c (s, g) (way.drop (k + 1)) ((k + 1 : Nat) : Int) (ch + 1)) := by show _ = _; rw [hRk.out, hst]; simp
            clear hst hRk
            go_wp2_with (go_at_call 75; refine HR.out.mono ?_; rintro e w1 ⟨rfl, hb1⟩; have m1 := Lib.hid ((hb1.block _ hsz).trans hblk.out); have hs1 : w.heap.size < w1.heap.size := lt_of_block m1.out; have z0 : w1.cell? ⟨w.heap.size, 0, none⟩ = some (.int .i64 ps) := blk_cell m1.out 0; have z1 : w1.cell? ⟨w.heap.size, 1, none⟩ = some (.int .i64 pg) := blk_cell m1.out 1; have zf : w1.frozen? ⟨w.heap.size, 0, none⟩ = false := blk_frozen m1.out 0; have zf1 : w1.frozen? ⟨w.heap.size, 1, none⟩ = false := blk_frozen m1.out 1)
            go_roundw
            case rel => exact ⟨k + 1, (s, g), ch + 1, by omega, by go_num, rfl, by omega, by omega, (((hbel.trans (hb1.mono (by omega))).setCell (Nat.le_refl _) _).setCell (Nat.le_refl _) _).alloc (by rw [size_setCell, size_setCell]; omega) _, blk_alloc (blk_set2 m1.out _ _) _, hN⟩
            case measure => simp [intOf]; omega
        · rw [if_pos hb0] at hst
          have hN : Hid (Pl.along n c p0 way 0 0 = (ch, (k : Int), bar)) := by show _ = _; rw [hRk.out, hst]
          have hb : (bar != 0) = true := by rw [bne_iff_ne]; exact hb0
          clear hst hRk hb0
          go_wp2_with (go_at_call 75; refine HR.out.mono ?_; rintro e w1 ⟨rfl, hb1⟩)
          go_ret3
          exact ⟨by rw [hN.out]; rfl, (hbel.trans (hb1.mono (by omega))).alloc (by have := hb1.size; omega) _⟩
      · have hN : Hid (Pl.along n c p0 way 0 0 = (ch, -1, 0)) := by show _ = _; rw [hRk.out, List.drop_eq_nil_of_le (by omega)]; rfl
        clear hRk hcell
        go_wp2
        go_ret3
        exact ⟨by rw [hN.out]; rfl, hbel⟩
end Go.Proofs.Ytpbjpochjagicaa
