/- Walks: the rules by which lines bar cars. -/
import Derived.Test.YtpbjpochjagicaaGreatDoorRRW4
import Derived.Deep.QuietTactic
import Derived.StillTailTactics
namespace Go.Proofs.YtpbjpochjagicaaGreatDoorRR
open Go.RowKit

theorem quiet_left {P : Program} {f : FuncId} {args : Array Value} {w : World} {n : Nat} {v : Value} (h : Calls P f args (w.drewN n) fun e w' => e = .returned v ∧ w.drewN n = w') :
    Calls P f args (w.drewN n) fun e w'' => e = .returned v ∧ ∃ m, w'' = w.drewN m :=
  h.mono fun _ _ ⟨he, hm⟩ => ⟨he, n, hm.symm⟩

/-- A car at work: block X; its net: block N. -/
structure CarAt (w : World) (X N : Nat) (c : Pl.Cch) (c_gA c_bA c_hA : Option Addr) (c_gc c_bc c_hc : Nat) (n : Pl.Nt) (n_tA n_sA : Option Addr) (n_tc n_sc : Nat) (rA : Option Addr) (rl rc : Nat) : Prop where
  car : ∃ tl T, w.heap[X]? = some (.cells (#[.slice c_gA c.gauges.length c_gc, .int .i64 c.size, .int .i64 c.load, .slice c_bA c.brakes.length c_bc, .slice c_hA c.heats.length c_hc, .bool c.hooks] ++ #[.pointer (some ⟨N, 0, none⟩), .slice rA rl rc] ++ tl) T (0, 0))
  net : w.heap[N]? = some (.cells #[.int .i64 n.stops, .slice n_tA n.tracks.length n_tc, .slice n_sA n.shops.length n_sc] 25 (0, 0))
section
variable {w w' : World} {X N : Nat} {c : Pl.Cch} {c_gA c_bA c_hA : Option Addr} {c_gc c_bc c_hc : Nat} {n : Pl.Nt} {n_tA n_sA : Option Addr} {n_tc n_sc : Nat} {rA : Option Addr} {rl rc : Nat}
theorem CarAt.c0 (h : CarAt w X N c c_gA c_bA c_hA c_gc c_bc c_hc n n_tA n_sA n_tc n_sc rA rl rc) : w.cell? ⟨X, 0, none⟩ = some (.slice c_gA c.gauges.length c_gc) := by obtain ⟨tl, T, h1⟩ := h.car; rw [cell_of_row w X 0 _ T (0, 0) h1, Array.getElem?_append_left (by simp)]; rfl
theorem CarAt.c1 (h : CarAt w X N c c_gA c_bA c_hA c_gc c_bc c_hc n n_tA n_sA n_tc n_sc rA rl rc) : w.cell? ⟨X, 1, none⟩ = some (.int .i64 c.size) := by obtain ⟨tl, T, h1⟩ := h.car; rw [cell_of_row w X 1 _ T (0, 0) h1, Array.getElem?_append_left (by simp)]; rfl
theorem CarAt.c2 (h : CarAt w X N c c_gA c_bA c_hA c_gc c_bc c_hc n n_tA n_sA n_tc n_sc rA rl rc) : w.cell? ⟨X, 2, none⟩ = some (.int .i64 c.load) := by obtain ⟨tl, T, h1⟩ := h.car; rw [cell_of_row w X 2 _ T (0, 0) h1, Array.getElem?_append_left (by simp)]; rfl
theorem CarAt.c3 (h : CarAt w X N c c_gA c_bA c_hA c_gc c_bc c_hc n n_tA n_sA n_tc n_sc rA rl rc) : w.cell? ⟨X, 3, none⟩ = some (.slice c_bA c.brakes.length c_bc) := by obtain ⟨tl, T, h1⟩ := h.car; rw [cell_of_row w X 3 _ T (0, 0) h1, Array.getElem?_append_left (by simp)]; rfl
theorem CarAt.c4 (h : CarAt w X N c c_gA c_bA c_hA c_gc c_bc c_hc n n_tA n_sA n_tc n_sc rA rl rc) : w.cell? ⟨X, 4, none⟩ = some (.slice c_hA c.heats.length c_hc) := by obtain ⟨tl, T, h1⟩ := h.car; rw [cell_of_row w X 4 _ T (0, 0) h1, Array.getElem?_append_left (by simp)]; rfl
theorem CarAt.c5 (h : CarAt w X N c c_gA c_bA c_hA c_gc c_bc c_hc n n_tA n_sA n_tc n_sc rA rl rc) : w.cell? ⟨X, 5, none⟩ = some (.bool c.hooks) := by obtain ⟨tl, T, h1⟩ := h.car; rw [cell_of_row w X 5 _ T (0, 0) h1, Array.getElem?_append_left (by simp)]; rfl
theorem CarAt.c6 (h : CarAt w X N c c_gA c_bA c_hA c_gc c_bc c_hc n n_tA n_sA n_tc n_sc rA rl rc) : w.cell? ⟨X, 6, none⟩ = some (.pointer (some ⟨N, 0, none⟩)) := by obtain ⟨tl, T, h1⟩ := h.car; rw [cell_of_row w X 6 _ T (0, 0) h1, Array.getElem?_append_left (by simp)]; rfl
theorem CarAt.c7 (h : CarAt w X N c c_gA c_bA c_hA c_gc c_bc c_hc n n_tA n_sA n_tc n_sc rA rl rc) : w.cell? ⟨X, 7, none⟩ = some (.slice rA rl rc) := by obtain ⟨tl, T, h1⟩ := h.car; rw [cell_of_row w X 7 _ T (0, 0) h1, Array.getElem?_append_left (by simp)]; rfl
theorem CarAt.n0 (h : CarAt w X N c c_gA c_bA c_hA c_gc c_bc c_hc n n_tA n_sA n_tc n_sc rA rl rc) : w.cell? ⟨N, 0, none⟩ = some (.int .i64 n.stops) := cell_of_row w N 0 _ 25 (0, 0) h.net
theorem CarAt.n1 (h : CarAt w X N c c_gA c_bA c_hA c_gc c_bc c_hc n n_tA n_sA n_tc n_sc rA rl rc) : w.cell? ⟨N, 1, none⟩ = some (.slice n_tA n.tracks.length n_tc) := cell_of_row w N 1 _ 25 (0, 0) h.net
theorem CarAt.n2 (h : CarAt w X N c c_gA c_bA c_hA c_gc c_bc c_hc n n_tA n_sA n_tc n_sc rA rl rc) : w.cell? ⟨N, 2, none⟩ = some (.slice n_sA n.shops.length n_sc) := cell_of_row w N 2 _ 25 (0, 0) h.net
theorem lt_of_block {w : World} {k : Nat} {o : Obj} (h : w.heap[k]? = some o) : k < w.heap.size := by
  rcases Nat.lt_or_ge k w.heap.size with hlt | hge
  · exact hlt
  · rw [Array.getElem?_eq_none hge] at h; cases h
theorem CarAt.ltX (h : CarAt w X N c c_gA c_bA c_hA c_gc c_bc c_hc n n_tA n_sA n_tc n_sc rA rl rc) : X < w.heap.size := by obtain ⟨tl, T, h1⟩ := h.car; exact lt_of_block h1
theorem CarAt.ltN (h : CarAt w X N c c_gA c_bA c_hA c_gc c_bc c_hc n n_tA n_sA n_tc n_sc rA rl rc) : N < w.heap.size := lt_of_block h.net
theorem CarAt.of_blocks (h : CarAt w X N c c_gA c_bA c_hA c_gc c_bc c_hc n n_tA n_sA n_tc n_sc rA rl rc) (hX : w'.heap[X]? = w.heap[X]?) (hN : w'.heap[N]? = w.heap[N]?) : CarAt w' X N c c_gA c_bA c_hA c_gc c_bc c_hc n n_tA n_sA n_tc n_sc rA rl rc := ⟨by obtain ⟨tl, T, h1⟩ := h.car; exact ⟨tl, T, hX.trans h1⟩, hN.trans h.net⟩
theorem CarAt.below {B : Nat} (h : CarAt w X N c c_gA c_bA c_hA c_gc c_bc c_hc n n_tA n_sA n_tc n_sc rA rl rc) (hb : Below B w w') (hX : X < B) (hN : N < B) : CarAt w' X N c c_gA c_bA c_hA c_gc c_bc c_hc n n_tA n_sA n_tc n_sc rA rl rc := h.of_blocks (hb.block X hX) (hb.block N hN)
theorem CarAt.alloc (h : CarAt w X N c c_gA c_bA c_hA c_gc c_bc c_hc n n_tA n_sA n_tc n_sc rA rl rc) (o : Obj) : CarAt (w.alloc o) X N c c_gA c_bA c_hA c_gc c_bc c_hc n n_tA n_sA n_tc n_sc rA rl rc := h.of_blocks (Below.heap_alloc w o X h.ltX) (Below.heap_alloc w o N h.ltN)
theorem CarAt.setCell (h : CarAt w X N c c_gA c_bA c_hA c_gc c_bc c_hc n n_tA n_sA n_tc n_sc rA rl rc) {p : Addr} (hX : X ≠ p.block) (hN : N ≠ p.block) (u : Value) : CarAt (w.setCell p u) X N c c_gA c_bA c_hA c_gc c_bc c_hc n n_tA n_sA n_tc n_sc rA rl rc := h.of_blocks (Below.heap_setCell w p u X hX) (Below.heap_setCell w p u N hN)
end

/-- Does rule number k bar the car? -/
def barTest (c : Pl.Cch) (t : Pl.Trk) : Nat → Bool
  | 0 => !decide (t.gauge ∈ c.gauges)
  | 1 => decide (t.room < c.size)
  | 2 => decide (t.load < c.load)
  | 3 => (t.brake != 0) && !decide (t.brake ∈ c.brakes)
  | 4 => (t.heat != 0) && !decide (t.heat ∈ c.heats)
  | 5 => t.ferry && !c.hooks
  | _ => false
def barUp (c : Pl.Cch) (t : Pl.Trk) : Nat → List Int
  | 0 => []
  | k + 1 => if barTest c t k = true then barUp c t k ++ [(k : Int) + 1] else barUp c t k
theorem barUp_six (c : Pl.Cch) (t : Pl.Trk) : barUp c t 6 = Pl.barred c t := by
  have e0 : (if barTest c t 0 = true then [(1 : Int)] else []) = if t.gauge ∈ c.gauges then [] else [1] := by by_cases h : t.gauge ∈ c.gauges <;> simp [barTest, h]
  have e3 : (if barTest c t 3 = true then [(4 : Int)] else []) = if t.brake ≠ 0 ∧ t.brake ∉ c.brakes then [4] else [] := by
    by_cases h : t.brake = 0 <;> by_cases h2 : t.brake ∈ c.brakes <;> simp [barTest, h, h2] <;> simp_all
  have e4 : (if barTest c t 4 = true then [(5 : Int)] else []) = if t.heat ≠ 0 ∧ t.heat ∉ c.heats then [5] else [] := by
    by_cases h : t.heat = 0 <;> by_cases h2 : t.heat ∈ c.heats <;> simp [barTest, h, h2] <;> simp_all
  have e1 : (if barTest c t 1 = true then [(2 : Int)] else []) = if t.room < c.size then [2] else [] := by simp [barTest]
  have e2 : (if barTest c t 2 = true then [(3 : Int)] else []) = if t.load < c.load then [3] else [] := by simp [barTest]
  have e5 : (if barTest c t 5 = true then [(6 : Int)] else []) = if t.ferry = true ∧ c.hooks = false then [6] else [] := by
    cases h : t.ferry <;> cases h2 : c.hooks <;> simp [barTest, h, h2]
  have step : ∀ k, barUp c t (k + 1) = barUp c t k ++ if barTest c t k = true then [(k : Int) + 1] else [] := fun k => by
    simp only [barUp]; split <;> simp
  have s : barUp c t 6 = (if barTest c t 0 = true then [(1 : Int)] else []) ++ (if barTest c t 1 = true then [(2 : Int)] else []) ++ (if barTest c t 2 = true then [(3 : Int)] else []) ++
      (if barTest c t 3 = true then [(4 : Int)] else []) ++ (if barTest c t 4 = true then [(5 : Int)] else []) ++ (if barTest c t 5 = true then [(6 : Int)] else []) := by
    rw [step 5, step 4, step 3, step 2, step 1, step 0]; simp [barUp]
  rw [s, e0, e1, e2, e3, e4, e5]; rfl

set_option maxHeartbeats 400000 in
theorem rule0_any (X N : Nat) (c : Pl.Cch) (c_gA c_bA c_hA : Option Addr) (c_gc c_bc c_hc : Nat) (n : Pl.Nt) (n_tA n_sA : Option Addr) (n_tc n_sc : Nat) (rA : Option Addr) (rl rc : Nat) (t : Pl.Trk) (w : World) (h : CarAt w X N c c_gA c_bA c_hA c_gc c_bc c_hc n n_tA n_sA n_tc n_sc rA rl rc) (hr : CReads w w.heap.size c c_gA c_bA c_hA c_gc c_bc c_hc) :
    Calls Tryz.prog 64 #[.pointer (some ⟨X, 0, none⟩), .agg #[.int .i64 t.a, .int .i64 t.b, .int .i64 t.km, .int .i64 t.gauge, .int .i64 t.room, .int .i64 t.brake, .int .i64 t.heat, .int .i64 t.load, .bool t.ferry]] w fun e w' => e = .returned (.bool (barTest c t 0)) ∧ ∃ m, w' = (w.alloc (.cells #[.int .i64 t.a, .int .i64 t.b, .int .i64 t.km, .int .i64 t.gauge, .int .i64 t.room, .int .i64 t.brake, .int .i64 t.heat, .int .i64 t.load, .bool t.ferry] 31)).drewN m := by
  have q := h.c0
  have hX := h.ltX
  have Hr := Lib.hid (hr.alloc (Nat.le_refl _) (.cells #[.int .i64 t.a, .int .i64 t.b, .int .i64 t.km, .int .i64 t.gauge, .int .i64 t.room, .int .i64 t.brake, .int .i64 t.heat, .int .i64 t.load, .bool t.ferry] 31))
  have lg := hr.lenG
  have lb := hr.lenB
  have lh := hr.lenH
  clear hr h
  go_enter Tryz.func64, Tryz.ntmps64
  go_wp2
  (go_quiet ((go_at_call 28; exact quiet_left (contains_any _ _ _ _ w.heap.size _ (Hr.out.gauges.keep fun _ _ => rfl) (by omega)))))
  go_wp2
  go_ret
  exact ⟨rfl, _, rfl⟩

set_option maxHeartbeats 400000 in
theorem rule1_any (X N : Nat) (c : Pl.Cch) (c_gA c_bA c_hA : Option Addr) (c_gc c_bc c_hc : Nat) (n : Pl.Nt) (n_tA n_sA : Option Addr) (n_tc n_sc : Nat) (rA : Option Addr) (rl rc : Nat) (t : Pl.Trk) (w : World) (h : CarAt w X N c c_gA c_bA c_hA c_gc c_bc c_hc n n_tA n_sA n_tc n_sc rA rl rc) (hr : CReads w w.heap.size c c_gA c_bA c_hA c_gc c_bc c_hc) :
    Calls Tryz.prog 65 #[.pointer (some ⟨X, 0, none⟩), .agg #[.int .i64 t.a, .int .i64 t.b, .int .i64 t.km, .int .i64 t.gauge, .int .i64 t.room, .int .i64 t.brake, .int .i64 t.heat, .int .i64 t.load, .bool t.ferry]] w fun e w' => e = .returned (.bool (barTest c t 1)) ∧ ∃ m, w' = (w.alloc (.cells #[.int .i64 t.a, .int .i64 t.b, .int .i64 t.km, .int .i64 t.gauge, .int .i64 t.room, .int .i64 t.brake, .int .i64 t.heat, .int .i64 t.load, .bool t.ferry] 31)).drewN m := by
  have q := h.c1
  have hX := h.ltX
  have Hr := Lib.hid (hr.alloc (Nat.le_refl _) (.cells #[.int .i64 t.a, .int .i64 t.b, .int .i64 t.km, .int .i64 t.gauge, .int .i64 t.room, .int .i64 t.brake, .int .i64 t.heat, .int .i64 t.load, .bool t.ferry] 31))
  have lg := hr.lenG
  have lb := hr.lenB
  have lh := hr.lenH
  clear hr h
  go_enter Tryz.func65, Tryz.ntmps65
  go_wp2
  go_quiet (fail)
  go_wp2
  go_ret
  exact ⟨rfl, _, rfl⟩

set_option maxHeartbeats 400000 in
theorem rule2_any (X N : Nat) (c : Pl.Cch) (c_gA c_bA c_hA : Option Addr) (c_gc c_bc c_hc : Nat) (n : Pl.Nt) (n_tA n_sA : Option Addr) (n_tc n_sc : Nat) (rA : Option Addr) (rl rc : Nat) (t : Pl.Trk) (w : World) (h : CarAt w X N c c_gA c_bA c_hA c_gc c_bc c_hc n n_tA n_sA n_tc n_sc rA rl rc) (hr : CReads w w.heap.size c c_gA c_bA c_hA c_gc c_bc c_hc) :
    Calls Tryz.prog 66 #[.pointer (some ⟨X, 0, none⟩), .agg #[.int .i64 t.a, .int .i64 t.b, .int .i64 t.km, .int .i64 t.gauge, .int .i64 t.room, .int .i64 t.brake, .int .i64 t.heat, .int .i64 t.load, .bool t.ferry]] w fun e w' => e = .returned (.bool (barTest c t 2)) ∧ ∃ m, w' = (w.alloc (.cells #[.int .i64 t.a, .int .i64 t.b, .int .i64 t.km, .int .i64 t.gauge, .int .i64 t.room, .int .i64 t.brake, .int .i64 t.heat, .int .i64 t.load, .bool t.ferry] 31)).drewN m := by
  have q := h.c2
  have hX := h.ltX
  have Hr := Lib.hid (hr.alloc (Nat.le_refl _) (.cells #[.int .i64 t.a, .int .i64 t.b, .int .i64 t.km, .int .i64 t.gauge, .int .i64 t.room, .int .i64 t.brake, .int .i64 t.heat, .int .i64 t.load, .bool t.ferry] 31))
  have lg := hr.lenG
  have lb := hr.lenB
  have lh := hr.lenH
  clear hr h
  go_enter Tryz.func66, Tryz.ntmps66
  go_wp2
  go_quiet (fail)
  go_wp2
  go_ret
  exact ⟨rfl, _, rfl⟩

set_option maxHeartbeats 400000 in
theorem rule3_any (X N : Nat) (c : Pl.Cch) (c_gA c_bA c_hA : Option Addr) (c_gc c_bc c_hc : Nat) (n : Pl.Nt) (n_tA n_sA : Option Addr) (n_tc n_sc : Nat) (rA : Option Addr) (rl rc : Nat) (t : Pl.Trk) (w : World) (h : CarAt w X N c c_gA c_bA c_hA c_gc c_bc c_hc n n_tA n_sA n_tc n_sc rA rl rc) (hr : CReads w w.heap.size c c_gA c_bA c_hA c_gc c_bc c_hc) :
    Calls Tryz.prog 67 #[.pointer (some ⟨X, 0, none⟩), .agg #[.int .i64 t.a, .int .i64 t.b, .int .i64 t.km, .int .i64 t.gauge, .int .i64 t.room, .int .i64 t.brake, .int .i64 t.heat, .int .i64 t.load, .bool t.ferry]] w fun e w' => e = .returned (.bool (barTest c t 3)) ∧ ∃ m, w' = (w.alloc (.cells #[.int .i64 t.a, .int .i64 t.b, .int .i64 t.km, .int .i64 t.gauge, .int .i64 t.room, .int .i64 t.brake, .int .i64 t.heat, .int .i64 t.load, .bool t.ferry] 31)).drewN m := by
  have q := h.c3
  have hX := h.ltX
  have Hr := Lib.hid (hr.alloc (Nat.le_refl _) (.cells #[.int .i64 t.a, .int .i64 t.b, .int .i64 t.km, .int .i64 t.gauge, .int .i64 t.room, .int .i64 t.brake, .int .i64 t.heat, .int .i64 t.load, .bool t.ferry] 31))
  have lg := hr.lenG
  have lb := hr.lenB
  have lh := hr.lenH
  clear hr h
  cases hb : (t.brake != 0)
  · have hN : Hid (barTest c t 3 = false) := by show _ = _; simp [barTest, hb]
    go_enter Tryz.func67, Tryz.ntmps67
    go_wp2
    go_quiet (fail)
    go_wp2
    go_ret
    exact ⟨by rw [hN.out]; rfl, _, rfl⟩
  · have hN : Hid (barTest c t 3 = !decide (t.brake ∈ c.brakes)) := by show _ = _; simp [barTest, hb]
    go_enter Tryz.func67, Tryz.ntmps67
    go_wp2
    (go_quiet ((go_at_call 28; exact quiet_left (contains_any _ _ _ _ w.heap.size _ (Hr.out.brakes.keep fun _ _ => rfl) (by omega)))))
    go_wp2
    go_ret
    exact ⟨by rw [hN.out]; rfl, _, rfl⟩

set_option maxHeartbeats 400000 in
theorem rule4_any (X N : Nat) (c : Pl.Cch) (c_gA c_bA c_hA : Option Addr) (c_gc c_bc c_hc : Nat) (n : Pl.Nt) (n_tA n_sA : Option Addr) (n_tc n_sc : Nat) (rA : Option Addr) (rl rc : Nat) (t : Pl.Trk) (w : World) (h : CarAt w X N c c_gA c_bA c_hA c_gc c_bc c_hc n n_tA n_sA n_tc n_sc rA rl rc) (hr : CReads w w.heap.size c c_gA c_bA c_hA c_gc c_bc c_hc) :
    Calls Tryz.prog 68 #[.pointer (some ⟨X, 0, none⟩), .agg #[.int .i64 t.a, .int .i64 t.b, .int .i64 t.km, .int .i64 t.gauge, .int .i64 t.room, .int .i64 t.brake, .int .i64 t.heat, .int .i64 t.load, .bool t.ferry]] w fun e w' => e = .returned (.bool (barTest c t 4)) ∧ ∃ m, w' = (w.alloc (.cells #[.int .i64 t.a, .int .i64 t.b, .int .i64 t.km, .int .i64 t.gauge, .int .i64 t.room, .int .i64 t.brake, .int .i64 t.heat, .int .i64 t.load, .bool t.ferry] 31)).drewN m := by
  have q := h.c4
  have hX := h.ltX
  have Hr := Lib.hid (hr.alloc (Nat.le_refl _) (.cells #[.int .i64 t.a, .int .i64 t.b, .int .i64 t.km, .int .i64 t.gauge, .int .i64 t.room, .int .i64 t.brake, .int .i64 t.heat, .int .i64 t.load, .bool t.ferry] 31))
  have lg := hr.lenG
  have lb := hr.lenB
  have lh := hr.lenH
  clear hr h
  cases hb : (t.heat != 0)
  · have hN : Hid (barTest c t 4 = false) := by show _ = _; simp [barTest, hb]
    go_enter Tryz.func68, Tryz.ntmps68
    go_wp2
    go_quiet (fail)
    go_wp2
    go_ret
    exact ⟨by rw [hN.out]; rfl, _, rfl⟩
  · have hN : Hid (barTest c t 4 = !decide (t.heat ∈ c.heats)) := by show _ = _; simp [barTest, hb]
    go_enter Tryz.func68, Tryz.ntmps68
    go_wp2
    (go_quiet ((go_at_call 28; exact quiet_left (contains_any _ _ _ _ w.heap.size _ (Hr.out.heats.keep fun _ _ => rfl) (by omega)))))
    go_wp2
    go_ret
    exact ⟨by rw [hN.out]; rfl, _, rfl⟩

set_option maxHeartbeats 400000 in
theorem rule5_any (X N : Nat) (c : Pl.Cch) (c_gA c_bA c_hA : Option Addr) (c_gc c_bc c_hc : Nat) (n : Pl.Nt) (n_tA n_sA : Option Addr) (n_tc n_sc : Nat) (rA : Option Addr) (rl rc : Nat) (t : Pl.Trk) (w : World) (h : CarAt w X N c c_gA c_bA c_hA c_gc c_bc c_hc n n_tA n_sA n_tc n_sc rA rl rc) (hr : CReads w w.heap.size c c_gA c_bA c_hA c_gc c_bc c_hc) :
    Calls Tryz.prog 69 #[.pointer (some ⟨X, 0, none⟩), .agg #[.int .i64 t.a, .int .i64 t.b, .int .i64 t.km, .int .i64 t.gauge, .int .i64 t.room, .int .i64 t.brake, .int .i64 t.heat, .int .i64 t.load, .bool t.ferry]] w fun e w' => e = .returned (.bool (barTest c t 5)) ∧ ∃ m, w' = (w.alloc (.cells #[.int .i64 t.a, .int .i64 t.b, .int .i64 t.km, .int .i64 t.gauge, .int .i64 t.room, .int .i64 t.brake, .int .i64 t.heat, .int .i64 t.load, .bool t.ferry] 31)).drewN m := by
  have q := h.c5
  have hX := h.ltX
  have Hr := Lib.hid (hr.alloc (Nat.le_refl _) (.cells #[.int .i64 t.a, .int .i64 t.b, .int .i64 t.km, .int .i64 t.gauge, .int .i64 t.room, .int .i64 t.brake, .int .i64 t.heat, .int .i64 t.load, .bool t.ferry] 31))
  have lg := hr.lenG
  have lb := hr.lenB
  have lh := hr.lenH
  clear hr h
  cases hb : t.ferry
  · have hN : Hid (barTest c t 5 = false) := by show _ = _; simp [barTest, hb]
    go_enter Tryz.func69, Tryz.ntmps69
    go_wp2
    go_ret
    exact ⟨by rw [hN.out]; rfl, 0, rfl⟩
  · have hN : Hid (barTest c t 5 = !c.hooks) := by show _ = _; simp [barTest, hb]
    go_enter Tryz.func69, Tryz.ntmps69
    go_wp2
    go_ret
    exact ⟨by rw [hN.out]; rfl, 0, rfl⟩

end Go.Proofs.YtpbjpochjagicaaGreatDoorRR

