/- Walks: the closures of Rebuild and Lacks. Walks: the closure of Lacks. -/
import Derived.Test.YtpbjpochjagicaaW20
namespace Go.Proofs.Ytpbjpochjagicaa
open Go.RowKit

/-- What the closures of Rebuild and Lacks hold: the coach's box, the car's, the place's, the goal's. -/
structure AskAt (wr : World) (b6 b12 b13 b9 X N : Nat) (c : Pl.Cch) (c_gA c_bA c_hA : Option Addr) (c_gc c_bc c_hc : Nat) (n : Pl.Nt) (n_tA n_sA : Option Addr) (n_tc n_sc : Nat) (fr g ds : Int) : Prop where
  coach : wr.heap[b6]? = some (.cells #[.slice c_gA c.gauges.length c_gc, .int .i64 c.size, .int .i64 c.load, .slice c_bA c.brakes.length c_bc, .slice c_hA c.heats.length c_hc, .bool c.hooks] 30 (0, 0))
  ptr : wr.heap[b12]? = some (.cells #[.pointer (some ⟨X, 0, none⟩)] 91 (0, 0))
  place : wr.heap[b13]? = some (.cells #[.int .i64 fr, .int .i64 g] 93 (0, 0))
  goal : wr.heap[b9]? = some (.cells #[.int .i64 ds] 3 (0, 0))
  car : CarAt wr X N c c_gA c_bA c_hA c_gc c_bc c_hc n n_tA n_sA n_tc n_sc none 0 0

set_option maxRecDepth 100000 in
set_option maxHeartbeats 2000000 in
theorem reb_any (b6 b12 b13 b9 X N : Nat) (c : Pl.Cch) (c_gA c_bA c_hA : Option Addr) (c_gc c_bc c_hc : Nat) (n : Pl.Nt) (n_tA n_sA : Option Addr) (n_tc n_sc : Nat) (fr g ds : Int) (A : Option Addr) (lc : Nat) (l : List Int) (w : World) (h : AskAt w b6 b12 b13 b9 X N c c_gA c_bA c_hA c_gc c_bc c_hc n n_tA n_sA n_tc n_sc fr g ds)
    (hr : CReads w w.heap.size c c_gA c_bA c_hA c_gc c_bc c_hc) (hn : NReads w w.heap.size n n_tA n_sA n_tc n_sc) (hl : Ints w w.heap.size A l) (hlen : l.length ≤ 1000)
    (U : List Pl.Place) (hU : ∀ y, Pl.Gets (Pl.run n c l) n.tracks.length (fr, g) y → y ∈ U) (hUl : U.length ≤ 24) :
    Calls Try.prog 66 #[.slice A l.length lc, .pointer (some ⟨b6, 0, none⟩), .pointer (some ⟨b12, 0, none⟩), .pointer (some ⟨b13, 0, none⟩), .pointer (some ⟨b9, 0, none⟩)] w
      fun e w' => e = .returned (.bool (Pl.comes n c l (fr, g) ds)) ∧ Below w.heap.size w w' := by
  obtain ⟨x0, x1, x2, x3, x4, x5⟩ := box_cells c _ _ _ _ _ _ h.coach
  have y0 : w.cell? ⟨b12, 0, none⟩ = some (.pointer (some ⟨X, 0, none⟩)) := blk_cell h.ptr 0
  have z0 : w.cell? ⟨b13, 0, none⟩ = some (.int .i64 fr) := blk_cell h.place 0
  have z1 : w.cell? ⟨b13, 1, none⟩ = some (.int .i64 g) := blk_cell h.place 1
  have v0 : w.cell? ⟨b9, 0, none⟩ = some (.int .i64 ds) := blk_cell h.goal 0
  have c6 := h.car.c6
  have s6 := lt_of_block h.coach; have s12 := lt_of_block h.ptr; have s13 := lt_of_block h.place; have s9 := lt_of_block h.goal; have sX := h.car.ltX
  have hk : ∀ w', Below w.heap.size w w' → (fun w' => w'.cell? ⟨b6, 0, none⟩ = some (.slice c_gA c.gauges.length c_gc) ∧ w'.cell? ⟨b6, 1, none⟩ = some (.int .i64 c.size) ∧ w'.cell? ⟨b6, 2, none⟩ = some (.int .i64 c.load) ∧ w'.cell? ⟨b6, 3, none⟩ = some (.slice c_bA c.brakes.length c_bc) ∧ w'.cell? ⟨b6, 4, none⟩ = some (.slice c_hA c.heats.length c_hc) ∧ w'.cell? ⟨b6, 5, none⟩ = some (.bool c.hooks) ∧ w'.cell? ⟨b12, 0, none⟩ = some (.pointer (some ⟨X, 0, none⟩)) ∧ w'.cell? ⟨X, 6, none⟩ = some (.pointer (some ⟨N, 0, none⟩)) ∧ w'.cell? ⟨b13, 0, none⟩ = some (.int .i64 fr) ∧ w'.cell? ⟨b13, 1, none⟩ = some (.int .i64 g) ∧ w'.cell? ⟨b9, 0, none⟩ = some (.int .i64 ds)) w' := by
    intro w' hb'
    have hc : ∀ q i, q < w.heap.size → w'.cell? ⟨q, i, none⟩ = w.cell? ⟨q, i, none⟩ := fun q i hq => hb'.cell (p := ⟨q, i, none⟩) hq
    exact ⟨(hc _ _ s6).trans x0, (hc _ _ s6).trans x1, (hc _ _ s6).trans x2, (hc _ _ s6).trans x3, (hc _ _ s6).trans x4, (hc _ _ s6).trans x5, (hc _ _ s12).trans y0, (hc _ _ sX).trans c6, (hc _ _ s13).trans z0, (hc _ _ s13).trans z1, (hc _ _ s9).trans v0⟩
  have hbA : Below w.heap.size w (w.alloc (.cells (#[.slice c_gA c.gauges.length c_gc, .int .i64 c.size, .int .i64 c.load, .slice c_bA c.brakes.length c_bc, .slice c_hA c.heats.length c_hc, .bool c.hooks] ++ #[.pointer (some ⟨N, 0, none⟩), .slice A l.length lc]) 100)).drew := by
    have := (Below.refl w.heap.size w).alloc (Nat.le_refl _) (.cells (#[.slice c_gA c.gauges.length c_gc, .int .i64 c.size, .int .i64 c.load, .slice c_bA c.brakes.length c_bc, .slice c_hA c.heats.length c_hc, .bool c.hooks] ++ #[.pointer (some ⟨N, 0, none⟩), .slice A l.length lc]) 100)
    exact ⟨this.os, this.tape, this.output, this.size, this.block⟩
  have hcar : CarAt (w.alloc (.cells (#[.slice c_gA c.gauges.length c_gc, .int .i64 c.size, .int .i64 c.load, .slice c_bA c.brakes.length c_bc, .slice c_hA c.heats.length c_hc, .bool c.hooks] ++ #[.pointer (some ⟨N, 0, none⟩), .slice A l.length lc]) 100)).drew w.heap.size N c c_gA c_bA c_hA c_gc c_bc c_hc n n_tA n_sA n_tc n_sc A l.length lc :=
    ⟨⟨#[], 100, by rw [Array.append_empty]; exact heap_alloc_new w _⟩, blk_alloc h.car.net _⟩
  have HC := Lib.hid (comes_any w.heap.size N c c_gA c_bA c_hA c_gc c_bc c_hc n n_tA n_sA n_tc n_sc A l lc (fr, g) ds _ hcar ((hr.below hbA).more hbA.size) ((hn.below hbA).more hbA.size) ((hl.below hbA).more hbA.size) (by omega) U hU hUl)
  have HK := Lib.hid hk; have HbA := Lib.hid hbA
  clear hk hbA hcar hU hr hn hl h
  simp only at HC
  go_enter Try.func66, Try.ntmps66
  go_wp2_with fail
  go_region_held3 (fun w' => w'.cell? ⟨b6, 0, none⟩ = some (.slice c_gA c.gauges.length c_gc) ∧ w'.cell? ⟨b6, 1, none⟩ = some (.int .i64 c.size) ∧ w'.cell? ⟨b6, 2, none⟩ = some (.int .i64 c.load) ∧ w'.cell? ⟨b6, 3, none⟩ = some (.slice c_bA c.brakes.length c_bc) ∧ w'.cell? ⟨b6, 4, none⟩ = some (.slice c_hA c.heats.length c_hc) ∧ w'.cell? ⟨b6, 5, none⟩ = some (.bool c.hooks) ∧ w'.cell? ⟨b12, 0, none⟩ = some (.pointer (some ⟨X, 0, none⟩)) ∧ w'.cell? ⟨X, 6, none⟩ = some (.pointer (some ⟨N, 0, none⟩)) ∧ w'.cell? ⟨b13, 0, none⟩ = some (.int .i64 fr) ∧ w'.cell? ⟨b13, 1, none⟩ = some (.int .i64 g) ∧ w'.cell? ⟨b9, 0, none⟩ = some (.int .i64 ds))
    (first | go_keep | exact hS | exact HK.out _ HbA.out)
    (first | (go_at_call 67; refine HC.out.mono ?_; rintro e w2 ⟨rfl, hb2⟩; have hbW := HbA.out.trans (hb2.mono HbA.out.size); have hS := HK.out _ hbW))
  go_wp2_with fail
  go_ret
  exact ⟨rfl, hbW⟩
end Go.Proofs.Ytpbjpochjagicaa

namespace Go.Proofs.Ytpbjpochjagicaa
open Go.RowKit

set_option maxRecDepth 100000 in
set_option maxHeartbeats 2000000 in
theorem lack_any (b6 b12 b13 b9 X N : Nat) (c : Pl.Cch) (c_gA c_bA c_hA : Option Addr) (c_gc c_bc c_hc : Nat) (n : Pl.Nt) (n_tA n_sA : Option Addr) (n_tc n_sc : Nat) (fr g ds : Int) (A : Option Addr) (lc : Nat) (l : List Int) (w : World) (h : AskAt w b6 b12 b13 b9 X N c c_gA c_bA c_hA c_gc c_bc c_hc n n_tA n_sA n_tc n_sc fr g ds)
    (hr : CReads w w.heap.size c c_gA c_bA c_hA c_gc c_bc c_hc) (hn : NReads w w.heap.size n n_tA n_sA n_tc n_sc) (hl : Ints w w.heap.size A l) (hlen : l.length ≤ 900) (hf : Fine c 3) (hx : ∀ x ∈ l, x ≤ 9223372036854775807)
    (U : List Pl.Place) (hU : ∀ y, Pl.Gets (Pl.run n (Pl.given c l) []) n.tracks.length (fr, g) y → y ∈ U) (hUl : U.length ≤ 24) :
    Calls Try.prog 69 #[.slice A l.length lc, .pointer (some ⟨b6, 0, none⟩), .pointer (some ⟨b12, 0, none⟩), .pointer (some ⟨b13, 0, none⟩), .pointer (some ⟨b9, 0, none⟩)] w
      fun e w' => e = .returned (.bool (Pl.comes n (Pl.given c l) [] (fr, g) ds)) ∧ Below w.heap.size w w' := by
  obtain ⟨x0, x1, x2, x3, x4, x5⟩ := box_cells c _ _ _ _ _ _ h.coach
  have y0 : w.cell? ⟨b12, 0, none⟩ = some (.pointer (some ⟨X, 0, none⟩)) := blk_cell h.ptr 0
  have z0 : w.cell? ⟨b13, 0, none⟩ = some (.int .i64 fr) := blk_cell h.place 0
  have z1 : w.cell? ⟨b13, 1, none⟩ = some (.int .i64 g) := blk_cell h.place 1
  have v0 : w.cell? ⟨b9, 0, none⟩ = some (.int .i64 ds) := blk_cell h.goal 0
  have c6 := h.car.c6
  have s6 := lt_of_block h.coach; have s12 := lt_of_block h.ptr; have s13 := lt_of_block h.place; have s9 := lt_of_block h.goal; have sX := h.car.ltX
  have hk : ∀ w', Below w.heap.size w w' → (fun w' => w'.cell? ⟨b6, 0, none⟩ = some (.slice c_gA c.gauges.length c_gc) ∧ w'.cell? ⟨b6, 1, none⟩ = some (.int .i64 c.size) ∧ w'.cell? ⟨b6, 2, none⟩ = some (.int .i64 c.load) ∧ w'.cell? ⟨b6, 3, none⟩ = some (.slice c_bA c.brakes.length c_bc) ∧ w'.cell? ⟨b6, 4, none⟩ = some (.slice c_hA c.heats.length c_hc) ∧ w'.cell? ⟨b6, 5, none⟩ = some (.bool c.hooks) ∧ w'.cell? ⟨b12, 0, none⟩ = some (.pointer (some ⟨X, 0, none⟩)) ∧ w'.cell? ⟨X, 6, none⟩ = some (.pointer (some ⟨N, 0, none⟩)) ∧ w'.cell? ⟨b13, 0, none⟩ = some (.int .i64 fr) ∧ w'.cell? ⟨b13, 1, none⟩ = some (.int .i64 g) ∧ w'.cell? ⟨b9, 0, none⟩ = some (.int .i64 ds)) w' := by
    intro w' hb'
    have hc : ∀ q i, q < w.heap.size → w'.cell? ⟨q, i, none⟩ = w.cell? ⟨q, i, none⟩ := fun q i hq => hb'.cell (p := ⟨q, i, none⟩) hq
    exact ⟨(hc _ _ s6).trans x0, (hc _ _ s6).trans x1, (hc _ _ s6).trans x2, (hc _ _ s6).trans x3, (hc _ _ s6).trans x4, (hc _ _ s6).trans x5, (hc _ _ s12).trans y0, (hc _ _ sX).trans c6, (hc _ _ s13).trans z0, (hc _ _ s13).trans z1, (hc _ _ s9).trans v0⟩
  have hb0 : Below w.heap.size w w.drew := ⟨rfl, rfl, rfl, Nat.le_refl _, fun _ _ => rfl⟩
  have HG := Lib.hid (given_any c c_gA c_bA c_hA c_gc c_bc c_hc A lc l 3 w.drew (hr.below hb0) (hl.below hb0) hf (by omega) hx)
  have hcall : ∀ (w2 : World) (d_gA d_bA d_hA : Option Addr) (d_gc d_bc d_hc : Nat), CReads w2 w2.heap.size (Pl.given c l) d_gA d_bA d_hA d_gc d_bc d_hc → Below w.heap.size w w2 →
      Calls Try.prog 67 #[.pointer (some ⟨w2.heap.size, 0, none⟩), .agg #[.int .i64 fr, .int .i64 g], .int .i64 ds] (w2.alloc (.cells #[.slice d_gA (Pl.given c l).gauges.length d_gc, .int .i64 (Pl.given c l).size, .int .i64 (Pl.given c l).load, .slice d_bA (Pl.given c l).brakes.length d_bc, .slice d_hA (Pl.given c l).heats.length d_hc, .bool (Pl.given c l).hooks, .pointer (some ⟨N, 0, none⟩), .slice none 0 0] 100))
        fun e w' => e = .returned (.bool (Pl.comes n (Pl.given c l) [] (fr, g) ds)) ∧ Below w.heap.size w w' := by
    intro w2 d_gA d_bA d_hA d_gc d_bc d_hc hcr hb2
    have hbA := (Below.refl w2.heap.size w2).alloc (Nat.le_refl _) (.cells #[.slice d_gA (Pl.given c l).gauges.length d_gc, .int .i64 (Pl.given c l).size, .int .i64 (Pl.given c l).load, .slice d_bA (Pl.given c l).brakes.length d_bc, .slice d_hA (Pl.given c l).heats.length d_hc, .bool (Pl.given c l).hooks, .pointer (some ⟨N, 0, none⟩), .slice none 0 0] 100)
    have hNb := blk_below h.car.net hb2 h.car.ltN
    refine (comes_any w2.heap.size N (Pl.given c l) d_gA d_bA d_hA d_gc d_bc d_hc n n_tA n_sA n_tc n_sc none [] 0 (fr, g) ds _ ⟨⟨#[], 100, heap_alloc_new w2 _⟩, blk_alloc hNb _⟩ ((hcr.below hbA).more hbA.size) (((hn.below hb2).more hb2.size |>.below hbA).more hbA.size) (Ints.nil _ _ _) (by simp) U hU hUl).mono ?_
    rintro e w' ⟨h1, h2⟩
    exact ⟨h1, (hb2.trans (hbA.mono hb2.size)).trans (h2.mono (Nat.le_trans hb2.size hbA.size))⟩
  have HCall := Lib.hid hcall
  have HK := Lib.hid hk; have Hb0 := Lib.hid hb0
  clear hk hcall hb0 hU hr hn hl h
  go_enter Try.func69, Try.ntmps69
  go_wp2_with fail
  go_region_held3 (fun w' => w'.cell? ⟨b6, 0, none⟩ = some (.slice c_gA c.gauges.length c_gc) ∧ w'.cell? ⟨b6, 1, none⟩ = some (.int .i64 c.size) ∧ w'.cell? ⟨b6, 2, none⟩ = some (.int .i64 c.load) ∧ w'.cell? ⟨b6, 3, none⟩ = some (.slice c_bA c.brakes.length c_bc) ∧ w'.cell? ⟨b6, 4, none⟩ = some (.slice c_hA c.heats.length c_hc) ∧ w'.cell? ⟨b6, 5, none⟩ = some (.bool c.hooks) ∧ w'.cell? ⟨b12, 0, none⟩ = some (.pointer (some ⟨X, 0, none⟩)) ∧ w'.cell? ⟨X, 6, none⟩ = some (.pointer (some ⟨N, 0, none⟩)) ∧ w'.cell? ⟨b13, 0, none⟩ = some (.int .i64 fr) ∧ w'.cell? ⟨b13, 1, none⟩ = some (.int .i64 g) ∧ w'.cell? ⟨b9, 0, none⟩ = some (.int .i64 ds))
    (first | go_keep | exact hS)
    (first
      | (go_at_call 70; refine HG.out.mono ?_; rintro e w2 ⟨dg, db, dh, gc, bc, hc, rfl, hcr, hb2⟩; have hbW := Hb0.out.trans hb2; have hS := HK.out _ hbW; have HC := HCall.out w2 dg db dh gc bc hc hcr hbW)
      | (go_at_call 67; refine HC.mono ?_; rintro e w3 ⟨rfl, hb3⟩; have hS := HK.out _ hb3))
  go_wp2_with fail
  go_ret
  exact ⟨rfl, hb3⟩
end Go.Proofs.Ytpbjpochjagicaa
