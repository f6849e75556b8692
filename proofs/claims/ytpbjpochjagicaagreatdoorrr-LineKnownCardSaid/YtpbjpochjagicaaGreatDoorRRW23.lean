/- Walks: the closures of Rebuild and Lacks. Walks: the closure of Lacks. Walks: Rebuild. -/
import Derived.Test.YtpbjpochjagicaaGreatDoorRRW20
namespace Go.Proofs.YtpbjpochjagicaaGreatDoorRR
open Go.RowKit

/-- What the closures of Rebuild and Lacks hold: the coach's box, the car's, the place's, the goal's. -/
structure AskAt (wr : World) (b6 b12 b13 b9 X N : Nat) (c : Pl.Cch) (c_gA c_bA c_hA : Option Addr) (c_gc c_bc c_hc : Nat) (n : Pl.Nt) (n_tA n_sA : Option Addr) (n_tc n_sc : Nat) (fr g ds : Int) : Prop where
  coach : wr.heap[b6]? = some (.cells #[.slice c_gA c.gauges.length c_gc, .int .i64 c.size, .int .i64 c.load, .slice c_bA c.brakes.length c_bc, .slice c_hA c.heats.length c_hc, .bool c.hooks] 28 (0, 0))
  ptr : wr.heap[b12]? = some (.cells #[.pointer (some ⟨X, 0, none⟩)] 55 (0, 0))
  place : wr.heap[b13]? = some (.cells #[.int .i64 fr, .int .i64 g] 64 (0, 0))
  goal : wr.heap[b9]? = some (.cells #[.int .i64 ds] 3 (0, 0))
  car : CarAt wr X N c c_gA c_bA c_hA c_gc c_bc c_hc n n_tA n_sA n_tc n_sc none 0 0

set_option maxRecDepth 100000 in
set_option maxHeartbeats 2000000 in
theorem reb_any (b6 b12 b13 b9 X N : Nat) (c : Pl.Cch) (c_gA c_bA c_hA : Option Addr) (c_gc c_bc c_hc : Nat) (n : Pl.Nt) (n_tA n_sA : Option Addr) (n_tc n_sc : Nat) (fr g ds : Int) (A : Option Addr) (lc : Nat) (l : List Int) (w : World) (h : AskAt w b6 b12 b13 b9 X N c c_gA c_bA c_hA c_gc c_bc c_hc n n_tA n_sA n_tc n_sc fr g ds)
    (hr : CReads w w.heap.size c c_gA c_bA c_hA c_gc c_bc c_hc) (hn : NReads w w.heap.size n n_tA n_sA n_tc n_sc) (hl : Ints w w.heap.size A l) (hlen : l.length ≤ 1000)
    (U : List Pl.Place) (hU : ∀ y, Pl.Gets (Pl.run n c l) n.tracks.length (fr, g) y → y ∈ U) (hUl : U.length ≤ 24) :
    Calls Tryz.prog 43 #[.slice A l.length lc, .pointer (some ⟨b6, 0, none⟩), .pointer (some ⟨b12, 0, none⟩), .pointer (some ⟨b13, 0, none⟩), .pointer (some ⟨b9, 0, none⟩)] w
      fun e w' => e = .returned (.bool (Pl.comes n c l (fr, g) ds)) ∧ Below w.heap.size w w' := by
  obtain ⟨x0, x1, x2, x3, x4, x5⟩ := box_cells c _ _ _ _ _ _ h.coach
  have y0 : w.cell? ⟨b12, 0, none⟩ = some (.pointer (some ⟨X, 0, none⟩)) := blk_cell h.ptr 0
  have z0 : w.cell? ⟨b13, 0, none⟩ = some (.int .i64 fr) := blk_cell h.place 0
  have z1 : w.cell? ⟨b13, 1, none⟩ = some (.int .i64 g) := blk_cell h.place 1
  have v0 : w.cell? ⟨b9, 0, none⟩ = some (.int .i64 ds) := blk_cell h.goal 0
  have c6 := h.car.c6
  have s6 := lt_of_block h.coach; have s12 := lt_of_block h.ptr; have s13 := lt_of_block h.place; have s9 := lt_of_block h.goal; have sX := h.car.ltX
  have hk : ∀ w', Below w.heap.size w w' → (fun w' => w'.cell? ⟨b6, 0, none⟩ = some (.slice c_gA c.gauges.length c_gc) ∧ w'.cell? ⟨b6, 1, none⟩ = some (.int .i64 c.size) ∧ w'.cell? ⟨b6, 2, none⟩ = some (.int .i64 c.load) ∧ w'.cell? ⟨b6, 3, none⟩ = some (.slice c_bA c.brakes.length c_bc) ∧ w'.cell? ⟨b6, 4, none⟩ = some (.slice c_hA c.heats.length c_hc) ∧ w'.cell? ⟨b6, 5, none⟩ = some (.bool c.hooks) ∧ w'.cell? ⟨b12, 0, none⟩ = some (.pointer (some ⟨X, 0, none⟩)) ∧ w'.cell? ⟨X, 6, none⟩ = some (.pointer (some ⟨N, 0, none⟩)) ∧ w'.cell? ⟨b13, 0, none⟩ = some (.int .i64 fr) ∧ w'.cell? ⟨b13, 1, none⟩ = some (.int .i64 g) ∧ w'.cell? ⟨b9, 0, none⟩ = some (.int .i64 ds)) w' := by
    intro w' hb'
    have hc : ∀ q i, q < w.heap.size → w'.cell? ⟨q, i, none⟩ = w.cell? ⟨q, i, none⟩ := fun q i hq => hb'.cell (p := ⟨q, i, none⟩) hq
    exact ⟨(hc _ _ s6).trans x0, (hc _ _ s6).trans x1, (hc _ _ s6).trans x2, (hc _ _ s6).trans x3, (hc _ _ s6).trans x4, (hc _ _ s6).trans x5, (hc _ _ s12).trans y0, (hc _ _ sX).trans c6, (hc _ _ s13).trans z0, (hc _ _ s13).trans z1, (hc _ _ s9).trans v0⟩
  have hbA : Below w.heap.size w (w.alloc (.cells (#[.slice c_gA c.gauges.length c_gc, .int .i64 c.size, .int .i64 c.load, .slice c_bA c.brakes.length c_bc, .slice c_hA c.heats.length c_hc, .bool c.hooks] ++ #[.pointer (some ⟨N, 0, none⟩), .slice A l.length lc]) 58)).drew := by
    have := (Below.refl w.heap.size w).alloc (Nat.le_refl _) (.cells (#[.slice c_gA c.gauges.length c_gc, .int .i64 c.size, .int .i64 c.load, .slice c_bA c.brakes.length c_bc, .slice c_hA c.heats.length c_hc, .bool c.hooks] ++ #[.pointer (some ⟨N, 0, none⟩), .slice A l.length lc]) 58)
    exact ⟨this.os, this.tape, this.output, this.size, this.block⟩
  have hcar : CarAt (w.alloc (.cells (#[.slice c_gA c.gauges.length c_gc, .int .i64 c.size, .int .i64 c.load, .slice c_bA c.brakes.length c_bc, .slice c_hA c.heats.length c_hc, .bool c.hooks] ++ #[.pointer (some ⟨N, 0, none⟩), .slice A l.length lc]) 58)).drew w.heap.size N c c_gA c_bA c_hA c_gc c_bc c_hc n n_tA n_sA n_tc n_sc A l.length lc :=
    ⟨⟨#[], 58, by rw [Array.append_empty]; exact heap_alloc_new w _⟩, blk_alloc h.car.net _⟩
  have HC := Lib.hid (comes_any w.heap.size N c c_gA c_bA c_hA c_gc c_bc c_hc n n_tA n_sA n_tc n_sc A l lc (fr, g) ds _ hcar ((hr.below hbA).more hbA.size) ((hn.below hbA).more hbA.size) ((hl.below hbA).more hbA.size) (by omega) U hU hUl)
  have HK := Lib.hid hk; have HbA := Lib.hid hbA
  clear hk hbA hcar hU hr hn hl h
  simp only at HC
  go_enter Tryz.func43, Tryz.ntmps43
  go_wp2_with fail
  go_region_held3 (fun w' => w'.cell? ⟨b6, 0, none⟩ = some (.slice c_gA c.gauges.length c_gc) ∧ w'.cell? ⟨b6, 1, none⟩ = some (.int .i64 c.size) ∧ w'.cell? ⟨b6, 2, none⟩ = some (.int .i64 c.load) ∧ w'.cell? ⟨b6, 3, none⟩ = some (.slice c_bA c.brakes.length c_bc) ∧ w'.cell? ⟨b6, 4, none⟩ = some (.slice c_hA c.heats.length c_hc) ∧ w'.cell? ⟨b6, 5, none⟩ = some (.bool c.hooks) ∧ w'.cell? ⟨b12, 0, none⟩ = some (.pointer (some ⟨X, 0, none⟩)) ∧ w'.cell? ⟨X, 6, none⟩ = some (.pointer (some ⟨N, 0, none⟩)) ∧ w'.cell? ⟨b13, 0, none⟩ = some (.int .i64 fr) ∧ w'.cell? ⟨b13, 1, none⟩ = some (.int .i64 g) ∧ w'.cell? ⟨b9, 0, none⟩ = some (.int .i64 ds))
    (first | go_keep | exact hS | exact HK.out _ HbA.out)
    (first | (go_at_call 42; refine HC.out.mono ?_; rintro e w2 ⟨rfl, hb2⟩; have hbW := HbA.out.trans (hb2.mono HbA.out.size); have hS := HK.out _ hbW))
  go_wp2_with fail
  go_ret
  exact ⟨rfl, hbW⟩
end Go.Proofs.YtpbjpochjagicaaGreatDoorRR

namespace Go.Proofs.YtpbjpochjagicaaGreatDoorRR
open Go.RowKit

set_option maxRecDepth 100000 in
set_option maxHeartbeats 2000000 in
theorem lack_any (b6 b12 b13 b9 X N : Nat) (c : Pl.Cch) (c_gA c_bA c_hA : Option Addr) (c_gc c_bc c_hc : Nat) (n : Pl.Nt) (n_tA n_sA : Option Addr) (n_tc n_sc : Nat) (fr g ds : Int) (A : Option Addr) (lc : Nat) (l : List Int) (w : World) (h : AskAt w b6 b12 b13 b9 X N c c_gA c_bA c_hA c_gc c_bc c_hc n n_tA n_sA n_tc n_sc fr g ds)
    (hr : CReads w w.heap.size c c_gA c_bA c_hA c_gc c_bc c_hc) (hn : NReads w w.heap.size n n_tA n_sA n_tc n_sc) (hl : Ints w w.heap.size A l) (hlen : l.length ≤ 900) (hf : Fine c 3) (hx : ∀ x ∈ l, x ≤ 9223372036854775807)
    (U : List Pl.Place) (hU : ∀ y, Pl.Gets (Pl.run n (Pl.given c l) []) n.tracks.length (fr, g) y → y ∈ U) (hUl : U.length ≤ 24) :
    Calls Tryz.prog 40 #[.slice A l.length lc, .pointer (some ⟨b6, 0, none⟩), .pointer (some ⟨b12, 0, none⟩), .pointer (some ⟨b13, 0, none⟩), .pointer (some ⟨b9, 0, none⟩)] w
      fun e w' => e = .returned (.bool (Pl.comes n (Pl.given c l) [] (fr, g) ds)) ∧ Below w.heap.size w w' := by
  obtain ⟨x0, x1, x2, x3, x4, x5⟩ := box_cells c _ _ _ _ _ _ h.coach
  have y0 : w.cell? ⟨b12, 0, none⟩ = some (.pointer (some ⟨X, 0, none⟩)) := blk_cell h.ptr 0
  have z0 : w.cell? ⟨b13, 0, none⟩ = some (.int .i64 fr) := blk_cell h.place 0
  have z1 : w.cell? ⟨b13, 1, none⟩ = some (.int .i64 g) := blk_cell h.place 1
  have v0 : w.cell? ⟨b9, 0, none⟩ = some (.int .i64 ds) := blk_cell h.goal 0
  have c6 := h.car.c6
  have s6 := lt_of_block h.coach; have s12 := lt_of_block h.ptr; have s13 := lt_of_block h.place; have s9 := lt_of_block h.goal; have sX := h.car.ltX
  have hk : ∀ w', Below w.heap.size w w' → (fun w' => w'.cell? ⟨b6, 0, none⟩ = some (.slice c_gA c.gauges.length c_gc) ∧ w'.cell? ⟨b6, 1, none⟩ = some (.int .i64 c.size) ∧ w'.cell? ⟨b6, 2, none⟩ = some (.int .i64 c.load) ∧ w'.cell? ⟨b6, 3, none⟩ = some (.slice c_bA c.brakes.length c_bc) ∧ w'.cell? ⟨b6, 4, none⟩ = some (.slice c_hA c.heats.length c_hc) ∧ w'.cell? ⟨b6, 5, none⟩ = some (.bool c.hooks) ∧ w'.cell? ⟨b12, 0, none⟩ = some (.pointer (some ⟨X, 0, none⟩)) ∧ w'.cell? ⟨X, 6, none⟩ = some (.pointer (some ⟨N, 0, none⟩)) ∧ w'.cell? ⟨b13, 0, none⟩ = some (.int .i64 fr) ∧ w'.cell? ⟨b13, 1, none⟩ = some (.int .i64 g) ∧ w'.cell? ⟨b9, 0, none⟩ = some (.int .i64 ds)) w' := by
    intro w' hb'
    have hc : ∀ q i, q < w.heap.size → w'.cell? ⟨q, i, none⟩ = w.cell? ⟨q, i, none⟩ := fun q i hq => hb'.cell (p := ⟨q, i, none⟩) hq
    exact ⟨(hc _ _ s6).trans x0, (hc _ _ s6).trans x1, (hc _ _ s6).trans x2, (hc _ _ s6).trans x3, (hc _ _ s6).trans x4, (hc _ _ s6).trans x5, (hc _ _ s12).trans y0, (hc _ _ sX).trans c6, (hc _ _ s13).trans z0, (hc _ _ s13).trans z1, (hc _ _ s9).trans v0⟩
  have hb0 : Below w.heap.size w w.drew := ⟨rfl, rfl, rfl, Nat.le_refl _, fun _ _ => rfl⟩
  have HG := Lib.hid (given_any c c_gA c_bA c_hA c_gc c_bc c_hc A lc l 3 w.drew (hr.below hb0) (hl.below hb0) hf (by omega) hx)
  have hcall : ∀ (w2 : World) (d_gA d_bA d_hA : Option Addr) (d_gc d_bc d_hc : Nat), CReads w2 w2.heap.size (Pl.given c l) d_gA d_bA d_hA d_gc d_bc d_hc → Below w.heap.size w w2 →
      Calls Tryz.prog 42 #[.pointer (some ⟨w2.heap.size, 0, none⟩), .agg #[.int .i64 fr, .int .i64 g], .int .i64 ds] (w2.alloc (.cells #[.slice d_gA (Pl.given c l).gauges.length d_gc, .int .i64 (Pl.given c l).size, .int .i64 (Pl.given c l).load, .slice d_bA (Pl.given c l).brakes.length d_bc, .slice d_hA (Pl.given c l).heats.length d_hc, .bool (Pl.given c l).hooks, .pointer (some ⟨N, 0, none⟩), .slice none 0 0] 58))
        fun e w' => e = .returned (.bool (Pl.comes n (Pl.given c l) [] (fr, g) ds)) ∧ Below w.heap.size w w' := by
    intro w2 d_gA d_bA d_hA d_gc d_bc d_hc hcr hb2
    have hbA := (Below.refl w2.heap.size w2).alloc (Nat.le_refl _) (.cells #[.slice d_gA (Pl.given c l).gauges.length d_gc, .int .i64 (Pl.given c l).size, .int .i64 (Pl.given c l).load, .slice d_bA (Pl.given c l).brakes.length d_bc, .slice d_hA (Pl.given c l).heats.length d_hc, .bool (Pl.given c l).hooks, .pointer (some ⟨N, 0, none⟩), .slice none 0 0] 58)
    have hNb := blk_below h.car.net hb2 h.car.ltN
    refine (comes_any w2.heap.size N (Pl.given c l) d_gA d_bA d_hA d_gc d_bc d_hc n n_tA n_sA n_tc n_sc none [] 0 (fr, g) ds _ ⟨⟨#[], 58, heap_alloc_new w2 _⟩, blk_alloc hNb _⟩ ((hcr.below hbA).more hbA.size) (((hn.below hb2).more hb2.size |>.below hbA).more hbA.size) (Ints.nil _ _ _) (by simp) U hU hUl).mono ?_
    rintro e w' ⟨h1, h2⟩
    exact ⟨h1, (hb2.trans (hbA.mono hb2.size)).trans (h2.mono (Nat.le_trans hb2.size hbA.size))⟩
  have HCall := Lib.hid hcall
  have HK := Lib.hid hk; have Hb0 := Lib.hid hb0
  clear hk hcall hb0 hU hr hn hl h
  go_enter Tryz.func40, Tryz.ntmps40
  go_wp2_with fail
  go_region_held3 (fun w' => w'.cell? ⟨b6, 0, none⟩ = some (.slice c_gA c.gauges.length c_gc) ∧ w'.cell? ⟨b6, 1, none⟩ = some (.int .i64 c.size) ∧ w'.cell? ⟨b6, 2, none⟩ = some (.int .i64 c.load) ∧ w'.cell? ⟨b6, 3, none⟩ = some (.slice c_bA c.brakes.length c_bc) ∧ w'.cell? ⟨b6, 4, none⟩ = some (.slice c_hA c.heats.length c_hc) ∧ w'.cell? ⟨b6, 5, none⟩ = some (.bool c.hooks) ∧ w'.cell? ⟨b12, 0, none⟩ = some (.pointer (some ⟨X, 0, none⟩)) ∧ w'.cell? ⟨X, 6, none⟩ = some (.pointer (some ⟨N, 0, none⟩)) ∧ w'.cell? ⟨b13, 0, none⟩ = some (.int .i64 fr) ∧ w'.cell? ⟨b13, 1, none⟩ = some (.int .i64 g) ∧ w'.cell? ⟨b9, 0, none⟩ = some (.int .i64 ds))
    (first | go_keep | exact hS)
    (first
      | (go_at_call 41; refine HG.out.mono ?_; rintro e w2 ⟨dg, db, dh, gc, bc, hc, rfl, hcr, hb2⟩; have hbW := Hb0.out.trans hb2; have hS := HK.out _ hbW; have HC := HCall.out w2 dg db dh gc bc hc hcr hbW)
      | (go_at_call 42; refine HC.mono ?_; rintro e w3 ⟨rfl, hb3⟩; have hS := HK.out _ hb3))
  go_wp2_with fail
  go_ret
  exact ⟨rfl, hb3⟩
end Go.Proofs.YtpbjpochjagicaaGreatDoorRR

namespace Go.Proofs.YtpbjpochjagicaaGreatDoorRR
open Go.RowKit

/-- What Lacks and Rebuild hand back: q is the question's error, r the list, if there is one. -/
def ListPost (q : Int) (r : Option (List Int)) (w : World) (e : Ending) (w' : World) : Prop :=
  ∃ A k c v, e = .returned (.tuple #[.slice A k c, .int .i64 v]) ∧ Below w.heap.size w w' ∧ (q ≠ 0 → v = q ∧ k = 0) ∧ (q = 0 → r = none → v = 11 ∧ k = 0) ∧
    (∀ l, q = 0 → r = some l → v = 0 ∧ k = l.length ∧ Ints w' w'.heap.size A l)
theorem listPost_asked {q : Int} {r : Option (List Int)} {w w' : World} (hq : q ≠ 0) (hb : Below w.heap.size w w') : ListPost q r w (.returned (.tuple #[.slice none 0 0, .int .i64 q])) w' :=
  ⟨none, 0, 0, q, rfl, hb, fun _ => ⟨rfl, rfl⟩, fun h => absurd h hq, fun _ h => absurd h hq⟩
theorem listPost_none {w w' : World} (hb : Below w.heap.size w w') : ListPost 0 none w (.returned (.tuple #[.slice none 0 0, .int .i64 11])) w' :=
  ⟨none, 0, 0, 11, rfl, hb, fun h => absurd rfl h, fun _ _ => ⟨rfl, rfl⟩, fun _ _ h => by cases h⟩
theorem listPost_some {A : Option Addr} {c : Nat} {l : List Int} {w w' : World} (hI : Ints w' w'.heap.size A l) (hb : Below w.heap.size w w') : ListPost 0 (some l) w (.returned (.tuple #[.slice A l.length c, .int .i64 0])) w' :=
  ⟨A, l.length, c, 0, rfl, hb, fun h => absurd rfl h, (fun _ h => by cases h), (fun l' _ h => by cases h; exact ⟨rfl, rfl, hI⟩)⟩

theorem nums_succ (k : Nat) : Pl.nums (k + 1) = Pl.nums k ++ [(k : Int)] := by simp [Pl.nums, List.range_succ]
theorem nums_length (k : Nat) : (Pl.nums k).length = k := by simp [Pl.nums]
theorem reb_enter (x q1 q2 q3 q4 : Value) (ws : World) : Sem.run Tryz.prog (callFunc 43 #[x, q1, q2, q3, q4]) ws = .ok (.enter 43 #[x, q1, q2, q3, q4]) ws := by kernel_rfl

theorem AskAt.below {wr w' : World} {b6 b12 b13 b9 X N : Nat} {c : Pl.Cch} {c_gA c_bA c_hA : Option Addr} {c_gc c_bc c_hc : Nat} {n : Pl.Nt} {n_tA n_sA : Option Addr} {n_tc n_sc : Nat} {fr g ds : Int} (h : AskAt wr b6 b12 b13 b9 X N c c_gA c_bA c_hA c_gc c_bc c_hc n n_tA n_sA n_tc n_sc fr g ds) {B : Nat} (hb : Below B wr w') (hB : wr.heap.size ≤ B) : AskAt w' b6 b12 b13 b9 X N c c_gA c_bA c_hA c_gc c_bc c_hc n n_tA n_sA n_tc n_sc fr g ds :=
  ⟨blk_below h.coach hb (by have := lt_of_block h.coach; omega), blk_below h.ptr hb (by have := lt_of_block h.ptr; omega), blk_below h.place hb (by have := lt_of_block h.place; omega), blk_below h.goal hb (by have := lt_of_block h.goal; omega),
    h.car.below hb (by have := h.car.ltX; omega) (by have := h.car.ltN; omega)⟩

/-- The world of Rebuild, Lacks, Way behind the question. -/
theorem asked_world {w w1 : World} {X N : Nat} {c : Pl.Cch} {c_gA c_bA c_hA : Option Addr} {c_gc c_bc c_hc : Nat} {n : Pl.Nt} {n_tA n_sA : Option Addr} {n_tc n_sc : Nat} {fr g ds : Int}
    (hcar : CarAt w1 X N c c_gA c_bA c_hA c_gc c_bc c_hc n n_tA n_sA n_tc n_sc none 0 0) (hb : Below (w.heap.size + 1 + 1 + 1) (((w.alloc (.cells #[.int .i64 n.stops, .slice n_tA n.tracks.length n_tc, .slice n_sA n.shops.length n_sc] 25)).alloc (.cells #[.slice c_gA c.gauges.length c_gc, .int .i64 c.size, .int .i64 c.load, .slice c_bA c.brakes.length c_bc, .slice c_hA c.heats.length c_hc, .bool c.hooks] 28)).alloc (.cells #[.int .i64 ds] 3)) w1) :
    AskAt ((w1.alloc (.cells #[.pointer (some ⟨X, 0, none⟩)] 55)).alloc (.cells #[.int .i64 fr, .int .i64 g] 64)) (w.heap.size + 1) w1.heap.size (w1.heap.size + 1) (w.heap.size + 1 + 1) X N c c_gA c_bA c_hA c_gc c_bc c_hc n n_tA n_sA n_tc n_sc fr g ds ∧
    Below w.heap.size w ((w1.alloc (.cells #[.pointer (some ⟨X, 0, none⟩)] 55)).alloc (.cells #[.int .i64 fr, .int .i64 g] 64)) := by
  obtain ⟨M1, M0, M2⟩ := mid_blk w #[.int .i64 n.stops, .slice n_tA n.tracks.length n_tc, .slice n_sA n.shops.length n_sc] #[.slice c_gA c.gauges.length c_gc, .int .i64 c.size, .int .i64 c.load, .slice c_bA c.brakes.length c_bc, .slice c_hA c.heats.length c_hc, .bool c.hooks] #[.int .i64 ds] 25 28 3
  have hs := hb.size
  simp at hs
  have m1 := blk_below M1 hb (by omega); have m2 := blk_below M2 hb (by omega)
  refine ⟨⟨blk_alloc (blk_alloc m1 _) _, blk_alloc (heap_alloc_new w1 _) _, ?_, blk_alloc (blk_alloc m2 _) _, (hcar.alloc _).alloc _⟩, ?_⟩
  · have := heap_alloc_new (w1.alloc (.cells #[.pointer (some ⟨X, 0, none⟩)] 55)) (.cells #[.int .i64 fr, .int .i64 g] 64)
    simpa using this
  · exact ((((((Below.refl _ w).alloc (Nat.le_refl _) _).alloc (by simp) _).alloc (by simp; omega) _).trans (hb.mono (by omega))).alloc (by omega) _).alloc (by simp; omega) _

set_option maxRecDepth 100000 in
set_option maxHeartbeats 4000000 in
theorem rebuild_any (n : Pl.Nt) (n_tA n_sA : Option Addr) (n_tc n_sc : Nat) (c : Pl.Cch) (c_gA c_bA c_hA : Option Addr) (c_gc c_bc c_hc : Nat) (fr g ds : Int) (w : World) (hn : NReads w w.heap.size n n_tA n_sA n_tc n_sc) (hr : CReads w w.heap.size c c_gA c_bA c_hA c_gc c_bc c_hc) :
    Calls Tryz.prog 17 #[.agg #[.int .i64 n.stops, .slice n_tA n.tracks.length n_tc, .slice n_sA n.shops.length n_sc], .agg #[.slice c_gA c.gauges.length c_gc, .int .i64 c.size, .int .i64 c.load, .slice c_bA c.brakes.length c_bc, .slice c_hA c.heats.length c_hc, .bool c.hooks], .int .i64 fr, .int .i64 g, .int .i64 ds] w (ListPost (Pl.asked n c fr g ds) (Pl.rebuild n c fr g ds) w) := by
  have hb3 : Below w.heap.size w (((w.alloc (.cells #[.int .i64 n.stops, .slice n_tA n.tracks.length n_tc, .slice n_sA n.shops.length n_sc] 25)).alloc (.cells #[.slice c_gA c.gauges.length c_gc, .int .i64 c.size, .int .i64 c.load, .slice c_bA c.brakes.length c_bc, .slice c_hA c.heats.length c_hc, .bool c.hooks] 28)).alloc (.cells #[.int .i64 ds] 3)) := (((Below.refl _ _).alloc (Nat.le_refl _) _).alloc (by simp) _).alloc (by simp; omega) _
  have hsz : (((w.alloc (.cells #[.int .i64 n.stops, .slice n_tA n.tracks.length n_tc, .slice n_sA n.shops.length n_sc] 25)).alloc (.cells #[.slice c_gA c.gauges.length c_gc, .int .i64 c.size, .int .i64 c.load, .slice c_bA c.brakes.length c_bc, .slice c_hA c.heats.length c_hc, .bool c.hooks] 28)).alloc (.cells #[.int .i64 ds] 3)).heap.size = w.heap.size + 1 + 1 + 1 := by simp
  have Hn := Lib.hid ((hn.below hb3).more (B' := w.heap.size + 1 + 1 + 1) (by omega))
  have Hr := Lib.hid ((hr.below hb3).more (B' := w.heap.size + 1 + 1 + 1) (by omega))
  have HB3 := Lib.hid hb3
  clear hb3 hn hr
  by_cases hA : Pl.asked n c fr g ds = 0
  · have hQ := asked_yes n n_tA n_sA n_tc n_sc c c_gA c_bA c_hA c_gc c_bc c_hc fr g ds _ (by rw [hsz]; exact Hn.out) (by rw [hsz]; exact Hr.out) hA
    rw [hA]
    have ht := (check_tracks (both_check (question_b (asked_q hA).1).1).1).1
    have hU := fun l => asked_in (c' := c) (reb := l) hA
    have HQ := Lib.hid hQ; have HU := Lib.hid hU
    clear hQ hU hA
    generalize hRR : Pl.rebuild n c fr g ds = R
    have HRR := Lib.hid hRR; clear hRR
    go_enter Tryz.func17, Tryz.ntmps17
    go_wp2_with fail
    refine HQ.out.mono ?_
    rintro e w1 ⟨X, N, rfl, hcar, hX, hN, hb⟩
    clear HQ
    rw [hsz] at hb hX hN
    have hs1 : w.heap.size + 1 + 1 + 1 ≤ w1.heap.size := by have := hb.size; rwa [hsz] at this
    obtain ⟨hAsk, hBW⟩ := asked_world (fr := fr) (g := g) hcar hb
    have hnet : ((w1.alloc (.cells #[.pointer (some ⟨X, 0, none⟩)] 55)).alloc (.cells #[.int .i64 fr, .int .i64 g] 64)).cell? ⟨w.heap.size, 1, none⟩ = some (.slice n_tA n.tracks.length n_tc) := blk_cell (blk_alloc (blk_alloc (blk_below (mid_blk w #[.int .i64 n.stops, .slice n_tA n.tracks.length n_tc, .slice n_sA n.shops.length n_sc] #[.slice c_gA c.gauges.length c_gc, .int .i64 c.size, .int .i64 c.load, .slice c_bA c.brakes.length c_bc, .slice c_hA c.heats.length c_hc, .bool c.hooks] #[.int .i64 ds] 25 28 3).2.1 hb (by omega)) _) _) 1
    have HAsk := Lib.hid hAsk; have HBW := Lib.hid hBW
    have Hn1 := Lib.hid ((Hn.out.below hb).more hs1); have Hr1 := Lib.hid ((Hr.out.below hb).more hs1)
    clear hAsk hBW hcar hb
    go_wp2_with fail
    clear hnet
    generalize hW2 : ((w1.alloc (.cells #[.pointer (some ⟨X, 0, none⟩)] 55)).alloc (.cells #[.int .i64 fr, .int .i64 g] 64)) = W2 at HAsk HBW ⊢
    have hbW2 : Below w1.heap.size w1 W2 := by rw [← hW2]; exact ((Below.refl _ _).alloc (Nat.le_refl _) _).alloc (by simp) _
    have Hn2 := Lib.hid ((Hn1.out.below hbW2).more hbW2.size); have Hr2 := Lib.hid ((Hr1.out.below hbW2).more hbW2.size)
    clear hW2 hbW2 Hn Hr Hn1 Hr1 HB3
    go_loopw [15, 16, 35] (fun v u16 i wr => ∃ (k : Nat) (A : Option Addr) (ca : Nat), k ≤ n.tracks.length ∧ i = .int .i64 k ∧ v = .slice A (Pl.nums k).length ca ∧ Hid (OwnInts wr W2.heap.size A ca (Pl.nums k)) ∧ Below W2.heap.size W2 wr)
      (fun _ _ i _ => n.tracks.length - (intOf i).toNat)
    case atStart => exact ⟨0, none, 0, by omega, rfl, rfl, OwnInts.nil _ _, Below.refl _ _⟩
    case round =>
      obtain ⟨k, A, ca, hk, rfl, rfl, hown, hb⟩ := hrel
      have hlen := nums_length k
      by_cases hlt : k < n.tracks.length
      · have hki : (k : Int) < (n.tracks.length : Int) := by omega
        have hN := nums_succ k
        have HN := Lib.hid hN; have HL := Lib.hid hlen; have Hb := Lib.hid hb
        have hsz2 := hb.size
        have hl9 : (Pl.nums k).length < 9 := by omega
        clear hN hlen hb
        generalize Pl.nums k = l at hown HN HL hl9 ⊢
        go_wp2_with (at_builtin; refine wpl_app_ints rfl (.tmp 38) (.tmp 40) 23 rfl W2.heap.size Tryz.underlying23 int_info A ca l rfl (own_alloc hown.out _) (wr.heap.size + 1) (some ⟨wr.heap.size, 0, none⟩) 1 [(k : Int)] rfl (ints_one _ _ _ (by simp) (by omega)) (by simp; omega) (by simp; omega) ?_; intro A2 c2 w2 hown2 hg2 hat2)
        go_roundw
        case rel => exact ⟨k + 1, A2, c2, by omega, by go_num, by rw [HN.out]; simp, by show OwnInts _ _ _ _ _; rw [HN.out]; exact hown2, (Hb.out.alloc hsz2 _).grown hg2 (by simp; omega) (own_from hown.out)⟩
        case measure => simp [intOf]; omega
      · obtain rfl : k = n.tracks.length := by omega
        have hF := fewest_any A ca (Pl.nums n.tracks.length) 43 (.pointer (some ⟨w.heap.size + 1, 0, none⟩)) (.pointer (some ⟨w1.heap.size, 0, none⟩)) (.pointer (some ⟨w1.heap.size + 1, 0, none⟩)) (.pointer (some ⟨w.heap.size + 1 + 1, 0, none⟩))
          (fun l => Pl.comes n c l (fr, g) ds) wr (fun x ws => reb_enter x _ _ _ _ ws)
          (fun wq A' c' l hbq hI _ hlq => by
            have hbz := hb.trans (hbq.mono hb.size)
            exact reb_any (w.heap.size + 1) w1.heap.size (w1.heap.size + 1) (w.heap.size + 1 + 1) X N c c_gA c_bA c_hA c_gc c_bc c_hc n n_tA n_sA n_tc n_sc fr g ds A' c' l wq (HAsk.out.below hbz (Nat.le_refl _)) ((Hr2.out.below hbz).more hbz.size) ((Hn2.out.below hbz).more hbz.size) hI (by omega) places (HU.out l) places_length)
          (by omega) hown.out.ints
        have HF := Lib.hid hF
        have HBz := Lib.hid (HBW.out.trans (hb.mono (HBW.out.size)))
        have hR : Hid (Pl.fewest (Pl.nums n.tracks.length) (fun l => Pl.comes n c l (fr, g) ds) = R) := HRR.out
        rw [hR.out] at HF
        clear hF hown hb hR HRR HAsk HU Hn2 Hr2 hlen hlt
        cases R with
        | none =>
          go_wp2_with (go_at_call 39; refine HF.out.mono ?_; rintro e w3 ⟨A3, n3, c3, rfl, hb3⟩)
          go_ret2
          exact listPost_none (HBz.out.trans (hb3.mono HBz.out.size))
        | some l =>
          go_wp2_with (go_at_call 39; refine HF.out.mono ?_; rintro e w3 ⟨A3, c3, rfl, hI3, hb3⟩)
          go_ret2
          exact listPost_some hI3 (HBz.out.trans (hb3.mono HBz.out.size))
  · have HQ := Lib.hid (asked_no n n_tA n_sA n_tc n_sc c c_gA c_bA c_hA c_gc c_bc c_hc fr g ds _ (by rw [hsz]; exact Hn.out) (by rw [hsz]; exact Hr.out) hA)
    have hb : (Pl.asked n c fr g ds != 0) = true := by rw [bne_iff_ne]; exact hA
    have HA : Hid (Pl.asked n c fr g ds ≠ 0) := hA
    clear hA
    generalize Pl.rebuild n c fr g ds = R
    go_enter Tryz.func17, Tryz.ntmps17
    go_wp2_with fail
    refine HQ.out.mono ?_
    rintro e w1 ⟨rfl, hb1⟩
    rw [hsz] at hb1
    have HW := Lib.hid (HB3.out.trans (hb1.mono (by omega)))
    have hs := HW.out.size
    clear hb1
    go_wp2_with fail
    go_ret2
    exact listPost_asked HA.out ((HW.out.alloc hs _).alloc (by simp; omega) _)
end Go.Proofs.YtpbjpochjagicaaGreatDoorRR
