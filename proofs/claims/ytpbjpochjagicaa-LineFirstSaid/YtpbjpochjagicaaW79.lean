/- Walks: all by which a line bars a car, as the reference says: bars (by gen_ref3.py). Walks: Bars and Open of the reference. -/
import Derived.Test.YtpbjpochjagicaaW77
import Derived.Test.YtpbjpochjagicaaW70
import Derived.Deep.DeepCutAuto
import Derived.Test.YtpbjpochjagicaaW60
import Derived.Test.YtpbjpochjagicaaW40
namespace Go.Proofs.Ytpbjpochjagicaa
open Go.RowKit

def bar1 (c : Pl.Cch) (t : Pl.Trk) : List Int := if t.gauge ∈ c.gauges then [] else [1]
def bar2 (c : Pl.Cch) (t : Pl.Trk) : List Int := bar1 c t ++ if t.room < c.size then [2] else []
def bar3 (c : Pl.Cch) (t : Pl.Trk) : List Int := bar2 c t ++ if t.load < c.load then [3] else []
def bar4 (c : Pl.Cch) (t : Pl.Trk) : List Int := bar3 c t ++ if t.brake ≠ 0 ∧ t.brake ∉ c.brakes then [4] else []
def bar5 (c : Pl.Cch) (t : Pl.Trk) : List Int := bar4 c t ++ if t.heat ≠ 0 ∧ t.heat ∉ c.heats then [5] else []
def bar6 (c : Pl.Cch) (t : Pl.Trk) : List Int := bar5 c t ++ if t.ferry = true ∧ c.hooks = false then [6] else []
theorem bar6_all (c : Pl.Cch) (t : Pl.Trk) : bar6 c t = Pl.barred c t := rfl
theorem bar1_len (c : Pl.Cch) (t : Pl.Trk) : (bar1 c t).length ≤ 1 := by unfold bar1; split <;> simp
theorem bar2_len (c : Pl.Cch) (t : Pl.Trk) : (bar2 c t).length ≤ 2 := by have := bar1_len c t; unfold bar2; split <;> simp <;> omega
theorem bar3_len (c : Pl.Cch) (t : Pl.Trk) : (bar3 c t).length ≤ 3 := by have := bar2_len c t; unfold bar3; split <;> simp <;> omega
theorem bar4_len (c : Pl.Cch) (t : Pl.Trk) : (bar4 c t).length ≤ 4 := by have := bar3_len c t; unfold bar4; split <;> simp <;> omega
theorem bar5_len (c : Pl.Cch) (t : Pl.Trk) : (bar5 c t).length ≤ 5 := by have := bar4_len c t; unfold bar5; split <;> simp <;> omega

set_option maxRecDepth 20000 in
set_option maxHeartbeats 8000000 in
theorem rbars_any (t : Pl.Trk) (c : Pl.Cch) (c_gA c_bA c_hA : Option Addr) (c_gc c_bc c_hc : Nat) (w : World) (hr : CReads w w.heap.size c c_gA c_bA c_hA c_gc c_bc c_hc) :
    Calls Try.prog 95 #[.agg #[.int .i64 t.a, .int .i64 t.b, .int .i64 t.km, .int .i64 t.gauge, .int .i64 t.room, .int .i64 t.brake, .int .i64 t.heat, .int .i64 t.load, .bool t.ferry], .agg #[.slice c_gA c.gauges.length c_gc, .int .i64 c.size, .int .i64 c.load, .slice c_bA c.brakes.length c_bc, .slice c_hA c.heats.length c_hc, .bool c.hooks]] w (PutPost (Pl.barred c t) w) := by
  obtain ⟨w2, hw2⟩ : ∃ w2, w2 = (w.alloc (.cells #[.int .i64 t.a, .int .i64 t.b, .int .i64 t.km, .int .i64 t.gauge, .int .i64 t.room, .int .i64 t.brake, .int .i64 t.heat, .int .i64 t.load, .bool t.ferry] 47)).alloc (.cells #[.slice c_gA c.gauges.length c_gc, .int .i64 c.size, .int .i64 c.load, .slice c_bA c.brakes.length c_bc, .slice c_hA c.heats.length c_hc, .bool c.hooks] 30) := ⟨_, rfl⟩
  have hb2 : Below w.heap.size w w2 := by rw [hw2]; exact ((Below.refl _ _).alloc (Nat.le_refl _) _).alloc (by simp) _
  have hm0 : w2.heap[w.heap.size]? = some (.cells #[.int .i64 t.a, .int .i64 t.b, .int .i64 t.km, .int .i64 t.gauge, .int .i64 t.room, .int .i64 t.brake, .int .i64 t.heat, .int .i64 t.load, .bool t.ferry] 47 (0, 0)) := by rw [hw2]; exact blk_alloc (heap_alloc_new w _) _
  have hm1 : w2.heap[w.heap.size + 1]? = some (.cells #[.slice c_gA c.gauges.length c_gc, .int .i64 c.size, .int .i64 c.load, .slice c_bA c.brakes.length c_bc, .slice c_hA c.heats.length c_hc, .bool c.hooks] 30 (0, 0)) := by
    rw [hw2]
    have := heap_alloc_new (w.alloc (.cells #[.int .i64 t.a, .int .i64 t.b, .int .i64 t.km, .int .i64 t.gauge, .int .i64 t.room, .int .i64 t.brake, .int .i64 t.heat, .int .i64 t.load, .bool t.ferry] 47)) (.cells #[.slice c_gA c.gauges.length c_gc, .int .i64 c.size, .int .i64 c.load, .slice c_bA c.brakes.length c_bc, .slice c_hA c.heats.length c_hc, .bool c.hooks] 30)
    simpa using this
  have hs2 : w2.heap.size = w.heap.size + 1 + 1 := by rw [hw2]; simp
  have hr2 : CReads w2 w.heap.size c c_gA c_bA c_hA c_gc c_bc c_hc := hr.below hb2
  have lg := hr.lenG
  have lb := hr.lenB
  have lh := hr.lenH
  have HB2 := Lib.hid hb2
  have HM0 := Lib.hid hm0
  have HM1 := Lib.hid hm1
  have HS2 := Lib.hid hs2
  have HR2 := Lib.hid hr2
  have HKP : Hid (∀ W, Below w2.heap.size w2 W → (W.cell? ⟨w.heap.size, 3, none⟩ = some (.int .i64 t.gauge) ∧ W.cell? ⟨w.heap.size, 4, none⟩ = some (.int .i64 t.room) ∧ W.cell? ⟨w.heap.size, 5, none⟩ = some (.int .i64 t.brake) ∧ W.cell? ⟨w.heap.size, 6, none⟩ = some (.int .i64 t.heat) ∧ W.cell? ⟨w.heap.size, 7, none⟩ = some (.int .i64 t.load) ∧ W.cell? ⟨w.heap.size, 8, none⟩ = some (.bool t.ferry)) ∧
      (W.cell? ⟨w.heap.size + 1, 0, none⟩ = some (.slice c_gA c.gauges.length c_gc) ∧ W.cell? ⟨w.heap.size + 1, 1, none⟩ = some (.int .i64 c.size) ∧ W.cell? ⟨w.heap.size + 1, 2, none⟩ = some (.int .i64 c.load) ∧ W.cell? ⟨w.heap.size + 1, 3, none⟩ = some (.slice c_bA c.brakes.length c_bc) ∧ W.cell? ⟨w.heap.size + 1, 4, none⟩ = some (.slice c_hA c.heats.length c_hc) ∧ W.cell? ⟨w.heap.size + 1, 5, none⟩ = some (.bool c.hooks)) ∧
      CReads W w.heap.size c c_gA c_bA c_hA c_gc c_bc c_hc) := fun W hW => by
    have h0 := blk_below hm0 hW (by omega)
    have h1 := blk_below hm1 hW (by omega)
    exact ⟨⟨blk_cell h0 3, blk_cell h0 4, blk_cell h0 5, blk_cell h0 6, blk_cell h0 7, blk_cell h0 8⟩, ⟨blk_cell h1 0, blk_cell h1 1, blk_cell h1 2, blk_cell h1 3, blk_cell h1 4, blk_cell h1 5⟩, hr2.below (hW.mono (by omega))⟩
  clear hr hr2 hb2 hm0 hm1 hs2
  have hwl : w.heap.size < w2.heap.size := by have := HS2.out; omega
  have hwl1 : w.heap.size + 1 < w2.heap.size := by have := HS2.out; omega
  obtain ⟨⟨t3, t4, t5, t6, t7, t8⟩, ⟨x0, x1, x2, x3, x4, x5⟩, HC⟩ := HKP.out w2 (Below.refl _ _)
  have HC := Lib.hid HC
  go_enter Try.func95, Try.ntmps95
  go_upto_region 2 with fail
  rw [← hw2]
  clear hw2
  have HLEN : Hid (([] : List Int).length ≤ 10) := by show _ ≤ _; simp
  go_upto_if 11 with (go_at_call 88; refine (has_any c_gA c_gc c.gauges t.gauge _ w2 HC.out.gauges (by omega)).mono ?_; rintro e w' ⟨rfl, rfl⟩)
  go_cut [5] (fun v wx => ∃ (A : Option Addr) (cp : Nat), v = .slice A (bar1 c t).length cp ∧ Hid (OwnInts wx w2.heap.size A cp (bar1 c t)) ∧ Hid (Below w2.heap.size w2 wx))
  case first =>
    by_cases hp : t.gauge ∉ c.gauges
    · have hv : (!decide (t.gauge ∈ c.gauges)) = true := by simp [hp]
      have HN : Hid (bar1 c t = [1]) := by show _ = _; rw [bar1, if_neg hp]
      (try rw [hv])
      clear hp
      go_wp2_with (at_builtin; refine wpl_app_ints rfl (.tmp 12) (.tmp 13) 22 rfl w2.heap.size Try.underlying22 int_info none 0 (([] : List Int)) rfl (own_alloc (OwnInts.nil w2 w2.heap.size) _) (w2.heap.size + 1) (some ⟨w2.heap.size, 0, none⟩) 1 [1] rfl (ints_one _ _ _ (by simp) (by omega)) (by have := HLEN.out; first | omega | (simp; omega) | simp) (by have := (Below.refl w2.heap.size w2).size; first | omega | (simp; omega) | simp) ?_; intro A3 c3 w4' hown4 hg4 hat4; have HO4 := Lib.hid hown4; have HB4 := Lib.hid (((Below.refl w2.heap.size w2).alloc (Below.refl w2.heap.size w2).size (.cells #[.int .i64 1] 3)).grown hg4 (by have := (Below.refl w2.heap.size w2).size; first | omega | (simp; omega) | simp) (own_from (OwnInts.nil w2 w2.heap.size))); clear hown4 hg4 hat4)
      go_meet
      exact ⟨A3, c3, by rw [HN.out]; simp, by rw [HN.out]; exact HO4, HB4⟩
    · have hv : (!decide (t.gauge ∈ c.gauges)) = false := by simpa using hp
      have HN : Hid (bar1 c t = []) := by show _ = _; rw [bar1, if_pos (by simpa using hp)]
      (try rw [hv])
      clear hp
      go_wp2_with fail
      go_meet
      exact ⟨none, 0, by rw [HN.out]; rfl, by rw [HN.out]; exact (OwnInts.nil w2 w2.heap.size), (Below.refl w2.heap.size w2)⟩
  case rest =>
  obtain ⟨A, cp, rfl, hO, hB⟩ := hcut
  clear HLEN t3 t4 t5 t6 t7 t8 x0 x1 x2 x3 x4 x5 HC
  obtain ⟨wd, rfl⟩ : ∃ wd, wd = wc := ⟨_, rfl⟩
  have hsd := hB.out.size
  obtain ⟨⟨t3, t4, t5, t6, t7, t8⟩, ⟨x0, x1, x2, x3, x4, x5⟩, HC⟩ := HKP.out wd hB.out
  have HC := Lib.hid HC
  have HLEN : Hid ((bar1 c t).length ≤ 10) := by show _ ≤ _; have := bar1_len c t; omega
  go_upto_if 19 with fail
  go_cut [5] (fun v wx => ∃ (A : Option Addr) (cp : Nat), v = .slice A (bar2 c t).length cp ∧ Hid (OwnInts wx w2.heap.size A cp (bar2 c t)) ∧ Hid (Below w2.heap.size w2 wx))
  case first =>
    by_cases hp : (t.room < c.size)
    · have hv : decide (t.room < c.size) = true := decide_eq_true hp
      have HN : Hid (bar2 c t = bar1 c t ++ [2]) := by show _ = _; rw [bar2, if_pos hp]
      (try rw [hv])
      clear hp
      go_wp2_with (at_builtin; refine wpl_app_ints rfl (.tmp 20) (.tmp 21) 22 rfl w2.heap.size Try.underlying22 int_info A cp (bar1 c t) rfl (own_alloc hO.out _) (wd.heap.size + 1) (some ⟨wd.heap.size, 0, none⟩) 1 [2] rfl (ints_one _ _ _ (by simp) (by omega)) (by have := HLEN.out; first | omega | (simp; omega) | simp) (by have := hB.out.size; first | omega | (simp; omega) | simp) ?_; intro A3 c3 w4' hown4 hg4 hat4; have HO4 := Lib.hid hown4; have HB4 := Lib.hid ((hB.out.alloc hB.out.size (.cells #[.int .i64 2] 3)).grown hg4 (by have := hB.out.size; first | omega | (simp; omega) | simp) (own_from hO.out)); clear hown4 hg4 hat4)
      go_meet
      exact ⟨A3, c3, by rw [HN.out]; simp, by rw [HN.out]; exact HO4, HB4⟩
    · have hv : decide (t.room < c.size) = false := decide_eq_false hp
      have HN : Hid (bar2 c t = bar1 c t) := by show _ = _; rw [bar2, if_neg hp, List.append_nil]
      (try rw [hv])
      clear hp
      go_wp2_with fail
      go_meet
      exact ⟨A, cp, by rw [HN.out], by rw [HN.out]; exact hO, hB⟩
  case rest =>
  obtain ⟨A, cp, rfl, hO, hB⟩ := hcut
  clear HLEN t3 t4 t5 t6 t7 t8 x0 x1 x2 x3 x4 x5 HC
  obtain ⟨wd, rfl⟩ : ∃ wd, wd = wc := ⟨_, rfl⟩
  have hsd := hB.out.size
  obtain ⟨⟨t3, t4, t5, t6, t7, t8⟩, ⟨x0, x1, x2, x3, x4, x5⟩, HC⟩ := HKP.out wd hB.out
  have HC := Lib.hid HC
  have HLEN : Hid ((bar2 c t).length ≤ 10) := by show _ ≤ _; have := bar2_len c t; omega
  go_upto_if 27 with fail
  go_cut [5] (fun v wx => ∃ (A : Option Addr) (cp : Nat), v = .slice A (bar3 c t).length cp ∧ Hid (OwnInts wx w2.heap.size A cp (bar3 c t)) ∧ Hid (Below w2.heap.size w2 wx))
  case first =>
    by_cases hp : (t.load < c.load)
    · have hv : decide (t.load < c.load) = true := decide_eq_true hp
      have HN : Hid (bar3 c t = bar2 c t ++ [3]) := by show _ = _; rw [bar3, if_pos hp]
      (try rw [hv])
      clear hp
      go_wp2_with (at_builtin; refine wpl_app_ints rfl (.tmp 28) (.tmp 29) 22 rfl w2.heap.size Try.underlying22 int_info A cp (bar2 c t) rfl (own_alloc hO.out _) (wd.heap.size + 1) (some ⟨wd.heap.size, 0, none⟩) 1 [3] rfl (ints_one _ _ _ (by simp) (by omega)) (by have := HLEN.out; first | omega | (simp; omega) | simp) (by have := hB.out.size; first | omega | (simp; omega) | simp) ?_; intro A3 c3 w4' hown4 hg4 hat4; have HO4 := Lib.hid hown4; have HB4 := Lib.hid ((hB.out.alloc hB.out.size (.cells #[.int .i64 3] 3)).grown hg4 (by have := hB.out.size; first | omega | (simp; omega) | simp) (own_from hO.out)); clear hown4 hg4 hat4)
      go_meet
      exact ⟨A3, c3, by rw [HN.out]; simp, by rw [HN.out]; exact HO4, HB4⟩
    · have hv : decide (t.load < c.load) = false := decide_eq_false hp
      have HN : Hid (bar3 c t = bar2 c t) := by show _ = _; rw [bar3, if_neg hp, List.append_nil]
      (try rw [hv])
      clear hp
      go_wp2_with fail
      go_meet
      exact ⟨A, cp, by rw [HN.out], by rw [HN.out]; exact hO, hB⟩
  case rest =>
  obtain ⟨A, cp, rfl, hO, hB⟩ := hcut
  clear HLEN t3 t4 t5 t6 t7 t8 x0 x1 x2 x3 x4 x5 HC
  obtain ⟨wd, rfl⟩ : ∃ wd, wd = wc := ⟨_, rfl⟩
  have hsd := hB.out.size
  obtain ⟨⟨t3, t4, t5, t6, t7, t8⟩, ⟨x0, x1, x2, x3, x4, x5⟩, HC⟩ := HKP.out wd hB.out
  have HC := Lib.hid HC
  have HLEN : Hid ((bar3 c t).length ≤ 10) := by show _ ≤ _; have := bar3_len c t; omega
  go_upto_region 8 with fail
  go_cut [41] (fun v wx => v = .bool (decide (t.brake ≠ 0 ∧ t.brake ∉ c.brakes)) ∧ wx = wd)
  case first =>
    by_cases h1 : t.brake = 0
    · have hq : (t.brake != 0) = false := by simp [h1]
      have hd : decide (t.brake ≠ 0 ∧ t.brake ∉ c.brakes) = false := decide_eq_false (fun h => h.1 h1)
      have HD := Lib.hid hd
      clear hd h1
      go_wp2_with fail
      go_meet
      exact ⟨by rw [HD.out], rfl⟩
    · have hq : (t.brake != 0) = true := by simp [h1]
      have hd : decide (t.brake ≠ 0 ∧ t.brake ∉ c.brakes) = !decide (t.brake ∈ c.brakes) := by simp [h1]
      have HD := Lib.hid hd
      clear hd h1
      go_wp2_with (go_at_call 88; refine (has_any c_bA c_bc c.brakes t.brake _ wd HC.out.brakes (by omega)).mono ?_; rintro e w' ⟨rfl, rfl⟩)
      go_meet
      exact ⟨by rw [HD.out], rfl⟩
  case rest =>
  obtain ⟨rfl, rfl⟩ := hcut
  go_upto_if 41 with fail
  go_cut [5] (fun v wx => ∃ (A : Option Addr) (cp : Nat), v = .slice A (bar4 c t).length cp ∧ Hid (OwnInts wx w2.heap.size A cp (bar4 c t)) ∧ Hid (Below w2.heap.size w2 wx))
  case first =>
    by_cases hp : (t.brake ≠ 0 ∧ t.brake ∉ c.brakes)
    · have hv : decide (t.brake ≠ 0 ∧ t.brake ∉ c.brakes) = true := decide_eq_true hp
      have HN : Hid (bar4 c t = bar3 c t ++ [4]) := by show _ = _; rw [bar4, if_pos hp]
      (try rw [hv])
      clear hp
      go_wp2_with (at_builtin; refine wpl_app_ints rfl (.tmp 42) (.tmp 43) 22 rfl w2.heap.size Try.underlying22 int_info A cp (bar3 c t) rfl (own_alloc hO.out _) (wc.heap.size + 1) (some ⟨wc.heap.size, 0, none⟩) 1 [4] rfl (ints_one _ _ _ (by simp) (by omega)) (by have := HLEN.out; first | omega | (simp; omega) | simp) (by have := hB.out.size; first | omega | (simp; omega) | simp) ?_; intro A3 c3 w4' hown4 hg4 hat4; have HO4 := Lib.hid hown4; have HB4 := Lib.hid ((hB.out.alloc hB.out.size (.cells #[.int .i64 4] 3)).grown hg4 (by have := hB.out.size; first | omega | (simp; omega) | simp) (own_from hO.out)); clear hown4 hg4 hat4)
      go_meet
      exact ⟨A3, c3, by rw [HN.out]; simp, by rw [HN.out]; exact HO4, HB4⟩
    · have hv : decide (t.brake ≠ 0 ∧ t.brake ∉ c.brakes) = false := decide_eq_false hp
      have HN : Hid (bar4 c t = bar3 c t) := by show _ = _; rw [bar4, if_neg hp, List.append_nil]
      (try rw [hv])
      clear hp
      go_wp2_with fail
      go_meet
      exact ⟨A, cp, by rw [HN.out], by rw [HN.out]; exact hO, hB⟩
  case rest =>
  obtain ⟨A, cp, rfl, hO, hB⟩ := hcut
  clear HLEN t3 t4 t5 t6 t7 t8 x0 x1 x2 x3 x4 x5 HC
  obtain ⟨wd, rfl⟩ : ∃ wd, wd = wc := ⟨_, rfl⟩
  have hsd := hB.out.size
  obtain ⟨⟨t3, t4, t5, t6, t7, t8⟩, ⟨x0, x1, x2, x3, x4, x5⟩, HC⟩ := HKP.out wd hB.out
  have HC := Lib.hid HC
  have HLEN : Hid ((bar4 c t).length ≤ 10) := by show _ ≤ _; have := bar4_len c t; omega
  go_upto_region 10 with fail
  go_cut [55] (fun v wx => v = .bool (decide (t.heat ≠ 0 ∧ t.heat ∉ c.heats)) ∧ wx = wd)
  case first =>
    by_cases h1 : t.heat = 0
    · have hq : (t.heat != 0) = false := by simp [h1]
      have hd : decide (t.heat ≠ 0 ∧ t.heat ∉ c.heats) = false := decide_eq_false (fun h => h.1 h1)
      have HD := Lib.hid hd
      clear hd h1
      go_wp2_with fail
      go_meet
      exact ⟨by rw [HD.out], rfl⟩
    · have hq : (t.heat != 0) = true := by simp [h1]
      have hd : decide (t.heat ≠ 0 ∧ t.heat ∉ c.heats) = !decide (t.heat ∈ c.heats) := by simp [h1]
      have HD := Lib.hid hd
      clear hd h1
      go_wp2_with (go_at_call 88; refine (has_any c_hA c_hc c.heats t.heat _ wd HC.out.heats (by omega)).mono ?_; rintro e w' ⟨rfl, rfl⟩)
      go_meet
      exact ⟨by rw [HD.out], rfl⟩
  case rest =>
  obtain ⟨rfl, rfl⟩ := hcut
  go_upto_if 55 with fail
  go_cut [5] (fun v wx => ∃ (A : Option Addr) (cp : Nat), v = .slice A (bar5 c t).length cp ∧ Hid (OwnInts wx w2.heap.size A cp (bar5 c t)) ∧ Hid (Below w2.heap.size w2 wx))
  case first =>
    by_cases hp : (t.heat ≠ 0 ∧ t.heat ∉ c.heats)
    · have hv : decide (t.heat ≠ 0 ∧ t.heat ∉ c.heats) = true := decide_eq_true hp
      have HN : Hid (bar5 c t = bar4 c t ++ [5]) := by show _ = _; rw [bar5, if_pos hp]
      (try rw [hv])
      clear hp
      go_wp2_with (at_builtin; refine wpl_app_ints rfl (.tmp 56) (.tmp 57) 22 rfl w2.heap.size Try.underlying22 int_info A cp (bar4 c t) rfl (own_alloc hO.out _) (wc.heap.size + 1) (some ⟨wc.heap.size, 0, none⟩) 1 [5] rfl (ints_one _ _ _ (by simp) (by omega)) (by have := HLEN.out; first | omega | (simp; omega) | simp) (by have := hB.out.size; first | omega | (simp; omega) | simp) ?_; intro A3 c3 w4' hown4 hg4 hat4; have HO4 := Lib.hid hown4; have HB4 := Lib.hid ((hB.out.alloc hB.out.size (.cells #[.int .i64 5] 3)).grown hg4 (by have := hB.out.size; first | omega | (simp; omega) | simp) (own_from hO.out)); clear hown4 hg4 hat4)
      go_meet
      exact ⟨A3, c3, by rw [HN.out]; simp, by rw [HN.out]; exact HO4, HB4⟩
    · have hv : decide (t.heat ≠ 0 ∧ t.heat ∉ c.heats) = false := decide_eq_false hp
      have HN : Hid (bar5 c t = bar4 c t) := by show _ = _; rw [bar5, if_neg hp, List.append_nil]
      (try rw [hv])
      clear hp
      go_wp2_with fail
      go_meet
      exact ⟨A, cp, by rw [HN.out], by rw [HN.out]; exact hO, hB⟩
  case rest =>
  obtain ⟨A, cp, rfl, hO, hB⟩ := hcut
  clear HLEN t3 t4 t5 t6 t7 t8 x0 x1 x2 x3 x4 x5 HC
  obtain ⟨wd, rfl⟩ : ∃ wd, wd = wc := ⟨_, rfl⟩
  have hsd := hB.out.size
  obtain ⟨⟨t3, t4, t5, t6, t7, t8⟩, ⟨x0, x1, x2, x3, x4, x5⟩, HC⟩ := HKP.out wd hB.out
  have HC := Lib.hid HC
  have HLEN : Hid ((bar5 c t).length ≤ 10) := by show _ ≤ _; have := bar5_len c t; omega
  go_upto_region 12 with fail
  go_cut [65] (fun v wx => v = .bool (decide (t.ferry = true ∧ c.hooks = false)) ∧ wx = wd)
  case first =>
    by_cases hf : t.ferry = true
    · rw [hf] at t8
      have HF := Lib.hid hf
      clear hf
      go_wp2_with fail
      go_meet
      exact ⟨by simp [HF.out], rfl⟩
    · rw [show t.ferry = false by simpa using hf] at t8
      have HF := Lib.hid hf
      clear hf
      go_wp2_with fail
      go_meet
      exact ⟨by simp [HF.out], rfl⟩
  case rest =>
  obtain ⟨rfl, rfl⟩ := hcut
  go_upto_if 65 with fail
  go_cut [5] (fun v wx => ∃ (A : Option Addr) (cp : Nat), v = .slice A (bar6 c t).length cp ∧ Hid (OwnInts wx w2.heap.size A cp (bar6 c t)) ∧ Hid (Below w2.heap.size w2 wx))
  case first =>
    by_cases hp : (t.ferry = true ∧ c.hooks = false)
    · have hv : decide (t.ferry = true ∧ c.hooks = false) = true := decide_eq_true hp
      have HN : Hid (bar6 c t = bar5 c t ++ [6]) := by show _ = _; rw [bar6, if_pos hp]
      (try rw [hv])
      clear hp
      go_wp2_with (at_builtin; refine wpl_app_ints rfl (.tmp 66) (.tmp 67) 22 rfl w2.heap.size Try.underlying22 int_info A cp (bar5 c t) rfl (own_alloc hO.out _) (wc.heap.size + 1) (some ⟨wc.heap.size, 0, none⟩) 1 [6] rfl (ints_one _ _ _ (by simp) (by omega)) (by have := HLEN.out; first | omega | (simp; omega) | simp) (by have := hB.out.size; first | omega | (simp; omega) | simp) ?_; intro A3 c3 w4' hown4 hg4 hat4; have HO4 := Lib.hid hown4; have HB4 := Lib.hid ((hB.out.alloc hB.out.size (.cells #[.int .i64 6] 3)).grown hg4 (by have := hB.out.size; first | omega | (simp; omega) | simp) (own_from hO.out)); clear hown4 hg4 hat4)
      go_meet
      exact ⟨A3, c3, by rw [HN.out]; simp, by rw [HN.out]; exact HO4, HB4⟩
    · have hv : decide (t.ferry = true ∧ c.hooks = false) = false := decide_eq_false hp
      have HN : Hid (bar6 c t = bar5 c t) := by show _ = _; rw [bar6, if_neg hp, List.append_nil]
      (try rw [hv])
      clear hp
      go_wp2_with fail
      go_meet
      exact ⟨A, cp, by rw [HN.out], by rw [HN.out]; exact hO, hB⟩
  case rest =>
  obtain ⟨A, cp, rfl, hO, hB⟩ := hcut
  clear HLEN t3 t4 t5 t6 t7 t8 x0 x1 x2 x3 x4 x5 HC
  obtain ⟨wd, rfl⟩ : ∃ wd, wd = wc := ⟨_, rfl⟩
  have hsd := hB.out.size
  obtain ⟨⟨t3, t4, t5, t6, t7, t8⟩, ⟨x0, x1, x2, x3, x4, x5⟩, HC⟩ := HKP.out wd hB.out
  have HC := Lib.hid HC
  go_wp2_with fail
  go_ret
  exact ⟨A, cp, by rw [← bar6_all]; rfl, by rw [← bar6_all]; exact own_weaken (base := w.heap.size) hO.out HB2.out.size, HB2.out.trans (hB.out.mono HB2.out.size)⟩
end Go.Proofs.Ytpbjpochjagicaa

namespace Go.Proofs.Ytpbjpochjagicaa
open Go.RowKit

/-- What is kept of a net and a car in the boxes P, Q while memory grows: their cells, and those of line number k. -/
theorem boxes_keep {w1 : World} {P Q : Nat} (n : Pl.Nt) (n_tA n_sA : Option Addr) (n_tc n_sc : Nat) (c : Pl.Cch) (c_gA c_bA c_hA : Option Addr) (c_gc c_bc c_hc : Nat) (hP : w1.heap[P]? = some (.cells #[.int .i64 n.stops, .slice n_tA n.tracks.length n_tc, .slice n_sA n.shops.length n_sc] 27 (0, 0))) (hQ : w1.heap[Q]? = some (.cells #[.slice c_gA c.gauges.length c_gc, .int .i64 c.size, .int .i64 c.load, .slice c_bA c.brakes.length c_bc, .slice c_hA c.heats.length c_hc, .bool c.hooks] 30 (0, 0))) :
    ∀ W, Below w1.heap.size w1 W → (W.cell? ⟨P, 0, none⟩ = some (.int .i64 n.stops) ∧ W.cell? ⟨P, 1, none⟩ = some (.slice n_tA n.tracks.length n_tc) ∧ W.cell? ⟨P, 2, none⟩ = some (.slice n_sA n.shops.length n_sc)) ∧
      (W.cell? ⟨Q, 0, none⟩ = some (.slice c_gA c.gauges.length c_gc) ∧ W.cell? ⟨Q, 1, none⟩ = some (.int .i64 c.size) ∧ W.cell? ⟨Q, 2, none⟩ = some (.int .i64 c.load) ∧ W.cell? ⟨Q, 3, none⟩ = some (.slice c_bA c.brakes.length c_bc) ∧ W.cell? ⟨Q, 4, none⟩ = some (.slice c_hA c.heats.length c_hc) ∧ W.cell? ⟨Q, 5, none⟩ = some (.bool c.hooks)) := fun W hW => by
  have h0 := blk_below hP hW (lt_of_block hP)
  have h1 := blk_below hQ hW (lt_of_block hQ)
  exact ⟨⟨blk_cell h0 0, blk_cell h0 1, blk_cell h0 2⟩, blk_cell h1 0, blk_cell h1 1, blk_cell h1 2, blk_cell h1 3, blk_cell h1 4, blk_cell h1 5⟩

set_option maxRecDepth 20000 in
set_option maxHeartbeats 4000000 in
theorem rBars_any (n : Pl.Nt) (n_tA n_sA : Option Addr) (n_tc n_sc : Nat) (c : Pl.Cch) (c_gA c_bA c_hA : Option Addr) (c_gc c_bc c_hc : Nat) (k : Int) (w : World) (hn : NReads w w.heap.size n n_tA n_sA n_tc n_sc) (hr : CReads w w.heap.size c c_gA c_bA c_hA c_gc c_bc c_hc) (hT : n.tracks.length ≤ 1000000) :
    Calls Try.prog 49 #[.agg #[.int .i64 n.stops, .slice n_tA n.tracks.length n_tc, .slice n_sA n.shops.length n_sc], .agg #[.slice c_gA c.gauges.length c_gc, .int .i64 c.size, .int .i64 c.load, .slice c_bA c.brakes.length c_bc, .slice c_hA c.heats.length c_hc, .bool c.hooks], .int .i64 k] w (BarsPost (barsOf n c k) w) := by
  have hb2 : ∀ (o1 o2 : Obj), Below w.heap.size w ((w.alloc o1).alloc o2) := fun o1 o2 => ((Below.refl _ _).alloc (Nat.le_refl _) _).alloc (by simp) _
  have Hn := Lib.hid (((hn.below (hb2 (.cells #[.int .i64 n.stops, .slice n_tA n.tracks.length n_tc, .slice n_sA n.shops.length n_sc] 27) (.cells #[.slice c_gA c.gauges.length c_gc, .int .i64 c.size, .int .i64 c.load, .slice c_bA c.brakes.length c_bc, .slice c_hA c.heats.length c_hc, .bool c.hooks] 30)))).more (B' := w.heap.size + 1 + 1) (by omega))
  have Hr := Lib.hid (((hr.below (hb2 (.cells #[.int .i64 n.stops, .slice n_tA n.tracks.length n_tc, .slice n_sA n.shops.length n_sc] 27) (.cells #[.slice c_gA c.gauges.length c_gc, .int .i64 c.size, .int .i64 c.load, .slice c_bA c.brakes.length c_bc, .slice c_hA c.heats.length c_hc, .bool c.hooks] 30)))).more (B' := w.heap.size + 1 + 1) (by omega))
  have hlT := hn.lenT
  have HB2 := Lib.hid hb2; clear hb2 hn hr
  have HM0 : Hid (((w.alloc (.cells #[.int .i64 n.stops, .slice n_tA n.tracks.length n_tc, .slice n_sA n.shops.length n_sc] 27)).alloc (.cells #[.slice c_gA c.gauges.length c_gc, .int .i64 c.size, .int .i64 c.load, .slice c_bA c.brakes.length c_bc, .slice c_hA c.heats.length c_hc, .bool c.hooks] 30)).heap[w.heap.size]? = some (.cells #[.int .i64 n.stops, .slice n_tA n.tracks.length n_tc, .slice n_sA n.shops.length n_sc] 27 (0, 0))) := blk_alloc (heap_alloc_new w _) _
  have HM1 : Hid (((w.alloc (.cells #[.int .i64 n.stops, .slice n_tA n.tracks.length n_tc, .slice n_sA n.shops.length n_sc] 27)).alloc (.cells #[.slice c_gA c.gauges.length c_gc, .int .i64 c.size, .int .i64 c.load, .slice c_bA c.brakes.length c_bc, .slice c_hA c.heats.length c_hc, .bool c.hooks] 30)).heap[w.heap.size + 1]? = some (.cells #[.slice c_gA c.gauges.length c_gc, .int .i64 c.size, .int .i64 c.load, .slice c_bA c.brakes.length c_bc, .slice c_hA c.heats.length c_hc, .bool c.hooks] 30 (0, 0))) := by
    have := heap_alloc_new (w.alloc (.cells #[.int .i64 n.stops, .slice n_tA n.tracks.length n_tc, .slice n_sA n.shops.length n_sc] 27)) (.cells #[.slice c_gA c.gauges.length c_gc, .int .i64 c.size, .int .i64 c.load, .slice c_bA c.brakes.length c_bc, .slice c_hA c.heats.length c_hc, .bool c.hooks] 30)
    show _ = _
    simpa using this
  by_cases e1 : Pl.both n c = 0
  · cases ho : Pl.out k 0 ((n.tracks.length : Int) - 1)
    · have hk0 : 0 ≤ k ∧ k ≤ (n.tracks.length : Int) - 1 := by simp [Pl.out] at ho; exact ho
      obtain ⟨kk, rfl⟩ : ∃ kk : Nat, k = kk := ⟨k.toNat, by omega⟩
      have hkk : kk < n.tracks.length := by omega
      have hN : barsOf n c kk = (Pl.barred c n.tracks[kk], 0) := by
        simp [barsOf, e1, ho, List.getD_eq_getElem?_getD, List.getElem?_eq_getElem hkk]
      obtain ⟨t, ht⟩ : ∃ t, n.tracks[kk] = t := ⟨_, rfl⟩
      rw [ht] at hN
      rw [hN]
      clear hN hk0
      go_enter Try.func49, Try.ntmps49
      go_wp2_with fail
      refine (rboth_any n n_tA n_sA n_tc n_sc c c_gA c_bA c_hA c_gc c_bc c_hc _ (by simpa using Hn.out) (by simpa using Hr.out)).mono ?_
      rintro e w1 ⟨rfl, hb⟩
      have m0 := Lib.hid (blk_below HM0.out hb (by simp; omega)); have m1 := Lib.hid (blk_below HM1.out hb (by simp))
      have hkp := boxes_keep n n_tA n_sA n_tc n_sc c c_gA c_bA c_hA c_gc c_bc c_hc m0.out m1.out
      have hsz := hb.size
      have HW := Lib.hid ((HB2.out (.cells #[.int .i64 n.stops, .slice n_tA n.tracks.length n_tc, .slice n_sA n.shops.length n_sc] 27) (.cells #[.slice c_gA c.gauges.length c_gc, .int .i64 c.size, .int .i64 c.load, .slice c_bA c.brakes.length c_bc, .slice c_hA c.heats.length c_hc, .bool c.hooks] 30)).trans (hb.mono (by simp; omega)))
      have hs1 : w.heap.size + 1 + 1 ≤ w1.heap.size := by simpa using hsz
      have Hn3 := Lib.hid ((Hn.out.below (by simpa using hb)).more hs1)
      have Hr3 := Lib.hid ((Hr.out.below (by simpa using hb)).more hs1)
      obtain ⟨bt, ot, hAt, hbt, hct⟩ := Hn3.out.tracks kk n.tracks[kk] (List.getElem?_eq_getElem hkk)
      subst hAt
      rw [ht] at hct
      have hck : ∀ W, Below w1.heap.size w1 W → _ := fun W hW => trk_cells (w := W) (b := bt) (o := ot + kk * 9) (fun j v hv => (hW.cell (p := ⟨bt, ot + kk * 9 + j, none⟩) hbt).trans (hct j v hv))
      have hS := And.intro (hkp _ (Below.refl _ _).drew) (hck _ (Below.refl _ _).drew)
      have HKP := Lib.hid hkp
      have HCK := Lib.hid hck
      obtain ⟨⟨z0, z1, z2⟩, x0, x1, x2, x3, x4, x5⟩ := hkp _ (Below.refl _ _)
      obtain ⟨c0, c1, c2, c3, c4, c5, c6, c7, c8⟩ := hck _ (Below.refl _ _)
      have hki : (kk : Int) < (n.tracks.length : Int) := by omega
      have HRd : Hid (CReads w1.drew w1.drew.heap.size c c_gA c_bA c_hA c_gc c_bc c_hc) := Hr3.out.below (Below.refl w1.heap.size w1).drew
      clear hb hsz hkp hck hct
      rw [e1]
      go_wp2_with (first | (go_at_call 84; refine (among_any _ _ _ _).mono ?_; rintro e w' ⟨rfl, rfl⟩))
      go_region_held3 (fun W => ((W.cell? ⟨w.heap.size, 0, none⟩ = some (.int .i64 n.stops) ∧ W.cell? ⟨w.heap.size, 1, none⟩ = some (.slice (some ⟨bt, ot, none⟩) n.tracks.length n_tc) ∧ W.cell? ⟨w.heap.size, 2, none⟩ = some (.slice n_sA n.shops.length n_sc)) ∧
        (W.cell? ⟨w.heap.size + 1, 0, none⟩ = some (.slice c_gA c.gauges.length c_gc) ∧ W.cell? ⟨w.heap.size + 1, 1, none⟩ = some (.int .i64 c.size) ∧ W.cell? ⟨w.heap.size + 1, 2, none⟩ = some (.int .i64 c.load) ∧ W.cell? ⟨w.heap.size + 1, 3, none⟩ = some (.slice c_bA c.brakes.length c_bc) ∧ W.cell? ⟨w.heap.size + 1, 4, none⟩ = some (.slice c_hA c.heats.length c_hc) ∧ W.cell? ⟨w.heap.size + 1, 5, none⟩ = some (.bool c.hooks))) ∧
        (W.cell? ⟨bt, ot + kk * 9, none⟩ = some (.int .i64 t.a) ∧ W.cell? ⟨bt, ot + kk * 9 + 1, none⟩ = some (.int .i64 t.b) ∧ W.cell? ⟨bt, ot + kk * 9 + 2, none⟩ = some (.int .i64 t.km) ∧
          W.cell? ⟨bt, ot + kk * 9 + 3, none⟩ = some (.int .i64 t.gauge) ∧ W.cell? ⟨bt, ot + kk * 9 + 4, none⟩ = some (.int .i64 t.room) ∧ W.cell? ⟨bt, ot + kk * 9 + 5, none⟩ = some (.int .i64 t.brake) ∧
          W.cell? ⟨bt, ot + kk * 9 + 6, none⟩ = some (.int .i64 t.heat) ∧ W.cell? ⟨bt, ot + kk * 9 + 7, none⟩ = some (.int .i64 t.load) ∧ W.cell? ⟨bt, ot + kk * 9 + 8, none⟩ = some (.bool t.ferry)))
        (first | go_keep | exact hS)
        (first
          | (go_at_call 95; refine (rbars_any t c c_gA c_bA c_hA c_gc c_bc c_hc w1.drew HRd.out).mono ?_; rintro e w2 ⟨A, cp, rfl, hown, hb2⟩; have hb3 := ((Below.refl w1.heap.size w1).drew).trans hb2; have hS := And.intro (HKP.out _ hb3) (HCK.out _ hb3); have HB3 := Lib.hid hb3; have HOW := Lib.hid (own_weaken (base := w.heap.size) hown (by show w.heap.size ≤ w1.heap.size; omega)); clear hown hb2 hb3))
      go_wp2_with fail
      go_ret2
      exact ⟨A, cp, rfl, HOW.out, HW.out.trans (HB3.out.mono (by omega))⟩
    · have hN : barsOf n c k = ([], 3) := by simp [barsOf, e1, ho]
      rw [hN]
      clear hN
      go_enter Try.func49, Try.ntmps49
      go_wp2_with fail
      refine (rboth_any n n_tA n_sA n_tc n_sc c c_gA c_bA c_hA c_gc c_bc c_hc _ (by simpa using Hn.out) (by simpa using Hr.out)).mono ?_
      rintro e w1 ⟨rfl, hb⟩
      have m0 := Lib.hid (blk_below HM0.out hb (by simp; omega))
      have z1 : w1.cell? ⟨w.heap.size, 1, none⟩ = some (.slice n_tA n.tracks.length n_tc) := blk_cell m0.out 1
      have HW := Lib.hid ((HB2.out (.cells #[.int .i64 n.stops, .slice n_tA n.tracks.length n_tc, .slice n_sA n.shops.length n_sc] 27) (.cells #[.slice c_gA c.gauges.length c_gc, .int .i64 c.size, .int .i64 c.load, .slice c_bA c.brakes.length c_bc, .slice c_hA c.heats.length c_hc, .bool c.hooks] 30)).trans (hb.mono (by simp; omega)))
      clear hb
      rw [e1]
      go_wp2_with (first | (go_at_call 84; refine (among_any _ _ _ _).mono ?_; rintro e w' ⟨rfl, rfl⟩))
      go_ret2
      exact ⟨none, 0, rfl, OwnInts.nil _ _, HW.out⟩
  · have hN : barsOf n c k = ([], Pl.both n c) := by simp [barsOf, e1]
    rw [hN]
    have hq : (Pl.both n c != 0) = true := by rw [bne_iff_ne]; exact e1
    clear e1 hN
    go_enter Try.func49, Try.ntmps49
    go_wp2_with fail
    refine (rboth_any n n_tA n_sA n_tc n_sc c c_gA c_bA c_hA c_gc c_bc c_hc _ (by simpa using Hn.out) (by simpa using Hr.out)).mono ?_
    rintro e w1 ⟨rfl, hb⟩
    have HW := Lib.hid ((HB2.out (.cells #[.int .i64 n.stops, .slice n_tA n.tracks.length n_tc, .slice n_sA n.shops.length n_sc] 27) (.cells #[.slice c_gA c.gauges.length c_gc, .int .i64 c.size, .int .i64 c.load, .slice c_bA c.brakes.length c_bc, .slice c_hA c.heats.length c_hc, .bool c.hooks] 30)).trans (hb.mono (by simp; omega)))
    clear hb
    go_wp2_with fail
    go_ret2
    exact ⟨none, 0, rfl, OwnInts.nil _ _, HW.out⟩
set_option maxRecDepth 20000 in
set_option maxHeartbeats 4000000 in
theorem rOpen_any (n : Pl.Nt) (n_tA n_sA : Option Addr) (n_tc n_sc : Nat) (c : Pl.Cch) (c_gA c_bA c_hA : Option Addr) (c_gc c_bc c_hc : Nat) (w : World) (hn : NReads w w.heap.size n n_tA n_sA n_tc n_sc) (hr : CReads w w.heap.size c c_gA c_bA c_hA c_gc c_bc c_hc) (hT : n.tracks.length ≤ 1000000) :
    Calls Try.prog 51 #[.agg #[.int .i64 n.stops, .slice n_tA n.tracks.length n_tc, .slice n_sA n.shops.length n_sc], .agg #[.slice c_gA c.gauges.length c_gc, .int .i64 c.size, .int .i64 c.load, .slice c_bA c.brakes.length c_bc, .slice c_hA c.heats.length c_hc, .bool c.hooks]] w (OpenPost n c w) := by
  have hb2 : ∀ (o1 o2 : Obj), Below w.heap.size w ((w.alloc o1).alloc o2) := fun o1 o2 => ((Below.refl _ _).alloc (Nat.le_refl _) _).alloc (by simp) _
  have Hn := Lib.hid (((hn.below (hb2 (.cells #[.int .i64 n.stops, .slice n_tA n.tracks.length n_tc, .slice n_sA n.shops.length n_sc] 27) (.cells #[.slice c_gA c.gauges.length c_gc, .int .i64 c.size, .int .i64 c.load, .slice c_bA c.brakes.length c_bc, .slice c_hA c.heats.length c_hc, .bool c.hooks] 30)))).more (B' := w.heap.size + 1 + 1) (by omega))
  have Hr := Lib.hid (((hr.below (hb2 (.cells #[.int .i64 n.stops, .slice n_tA n.tracks.length n_tc, .slice n_sA n.shops.length n_sc] 27) (.cells #[.slice c_gA c.gauges.length c_gc, .int .i64 c.size, .int .i64 c.load, .slice c_bA c.brakes.length c_bc, .slice c_hA c.heats.length c_hc, .bool c.hooks] 30)))).more (B' := w.heap.size + 1 + 1) (by omega))
  have HB2 := Lib.hid hb2; clear hb2 hn hr
  have HM0 : Hid (((w.alloc (.cells #[.int .i64 n.stops, .slice n_tA n.tracks.length n_tc, .slice n_sA n.shops.length n_sc] 27)).alloc (.cells #[.slice c_gA c.gauges.length c_gc, .int .i64 c.size, .int .i64 c.load, .slice c_bA c.brakes.length c_bc, .slice c_hA c.heats.length c_hc, .bool c.hooks] 30)).heap[w.heap.size]? = some (.cells #[.int .i64 n.stops, .slice n_tA n.tracks.length n_tc, .slice n_sA n.shops.length n_sc] 27 (0, 0))) := blk_alloc (heap_alloc_new w _) _
  have HM1 : Hid (((w.alloc (.cells #[.int .i64 n.stops, .slice n_tA n.tracks.length n_tc, .slice n_sA n.shops.length n_sc] 27)).alloc (.cells #[.slice c_gA c.gauges.length c_gc, .int .i64 c.size, .int .i64 c.load, .slice c_bA c.brakes.length c_bc, .slice c_hA c.heats.length c_hc, .bool c.hooks] 30)).heap[w.heap.size + 1]? = some (.cells #[.slice c_gA c.gauges.length c_gc, .int .i64 c.size, .int .i64 c.load, .slice c_bA c.brakes.length c_bc, .slice c_hA c.heats.length c_hc, .bool c.hooks] 30 (0, 0))) := by
    have := heap_alloc_new (w.alloc (.cells #[.int .i64 n.stops, .slice n_tA n.tracks.length n_tc, .slice n_sA n.shops.length n_sc] 27)) (.cells #[.slice c_gA c.gauges.length c_gc, .int .i64 c.size, .int .i64 c.load, .slice c_bA c.brakes.length c_bc, .slice c_hA c.heats.length c_hc, .bool c.hooks] 30)
    show _ = _
    simpa using this
  by_cases e1 : Pl.both n c = 0
  · have hN : Hid (openOut n c = (Pl.openOf n c, 0)) := by show _ = _; rw [openOut, if_neg (by simp [e1])]
    have hN2 : Hid (Pl.openOf n c = openTo n c n.tracks.length) := rfl
    have HE := Lib.hid e1
    clear e1
    go_enter Try.func51, Try.ntmps51
    go_wp2_with fail
    refine (rboth_any n n_tA n_sA n_tc n_sc c c_gA c_bA c_hA c_gc c_bc c_hc _ (by simpa using Hn.out) (by simpa using Hr.out)).mono ?_
    rintro e w1 ⟨rfl, hb⟩
    rw [HE.out]
    have m0 := Lib.hid (blk_below HM0.out hb (by simp; omega)); have m1 := Lib.hid (blk_below HM1.out hb (by simp))
    have hkp := boxes_keep n n_tA n_sA n_tc n_sc c c_gA c_bA c_hA c_gc c_bc c_hc m0.out m1.out
    have hsz := hb.size
    have HW := Lib.hid ((HB2.out (.cells #[.int .i64 n.stops, .slice n_tA n.tracks.length n_tc, .slice n_sA n.shops.length n_sc] 27) (.cells #[.slice c_gA c.gauges.length c_gc, .int .i64 c.size, .int .i64 c.load, .slice c_bA c.brakes.length c_bc, .slice c_hA c.heats.length c_hc, .bool c.hooks] 30)).trans (hb.mono (by simp; omega)))
    have hs1 : w.heap.size + 1 + 1 ≤ w1.heap.size := by simpa using hsz
    have Hn3 := Lib.hid ((Hn.out.below (by simpa using hb)).more hs1)
    have Hr3 := Lib.hid ((Hr.out.below (by simpa using hb)).more hs1)
    have HKP := Lib.hid hkp
    clear hb hsz hkp
    go_wp2_with fail
    go_loopw [7, 8] (fun lv iv wr => ∃ (A : Option Addr) (cp k : Nat), k ≤ n.tracks.length ∧ lv = .slice A (openTo n c k).length cp ∧ iv = .int .i64 k ∧ Hid (OwnInts wr w1.heap.size A cp (openTo n c k)) ∧ Hid (Below w1.heap.size w1 wr)) (fun _ i _ => n.tracks.length - (intOf i).toNat)
    case atStart => exact ⟨none, 0, 0, by omega, rfl, rfl, OwnInts.nil _ _, Below.refl _ _⟩
    case round =>
      obtain ⟨A, cp, k, hk, rfl, rfl, hO, hB⟩ := hrel
      have hsr := hB.out.size
      have hlk := openTo_length n c k
      have hz1 : wr.cell? ⟨w.heap.size, 1, none⟩ = some (.slice n_tA n.tracks.length n_tc) := (HKP.out _ hB.out).1.2.1
      by_cases hkl : k < n.tracks.length
      · have hkk : (k : Int) < (n.tracks.length : Int) := by omega
        have hg : n.tracks.getD k default = n.tracks[k] := by simp [List.getD_eq_getElem?_getD, List.getElem?_eq_getElem hkl]
        have HG := Lib.hid hg
        clear hg
        obtain ⟨bt, ot, hAt, hbt, hct⟩ := Hn3.out.tracks k n.tracks[k] (List.getElem?_eq_getElem hkl)
        subst hAt
        have hck : ∀ W, Below w1.heap.size w1 W → _ := fun W hW => trk_cells (w := W) (b := bt) (o := ot + k * 9) (fun j v hv => (hW.cell (p := ⟨bt, ot + k * 9 + j, none⟩) hbt).trans (hct j v hv))
        have HCK := Lib.hid hck
        have hbd := hB.out.drew
        have hS := And.intro (HKP.out _ hbd) (hck _ hbd)
        have HRd : Hid (CReads wr.drew wr.drew.heap.size c c_gA c_bA c_hA c_gc c_bc c_hc) := (Hr3.out.below hbd).more hbd.size
        clear hz1
        obtain ⟨⟨z0, z1, z2⟩, x0, x1, x2, x3, x4, x5⟩ := HKP.out _ hB.out
        obtain ⟨c0, c1, c2, c3, c4, c5, c6, c7, c8⟩ := hck _ hB.out
        have HBD := Lib.hid hbd
        have hl0r : w.heap.size < wr.heap.size := by omega
        have hl1r : w.heap.size + 1 < wr.heap.size := by omega
        have hbtr : bt < wr.heap.size := by omega
        obtain ⟨t, ht⟩ : ∃ t, n.tracks[k] = t := ⟨_, rfl⟩
        rw [ht] at HG hS c0 c1 c2 c3 c4 c5 c6 c7 c8 HCK
        clear hck hbd hct
        go_wp2_with fail
        go_region_held3 (fun W => ((W.cell? ⟨w.heap.size, 0, none⟩ = some (.int .i64 n.stops) ∧ W.cell? ⟨w.heap.size, 1, none⟩ = some (.slice (some ⟨bt, ot, none⟩) n.tracks.length n_tc) ∧ W.cell? ⟨w.heap.size, 2, none⟩ = some (.slice n_sA n.shops.length n_sc)) ∧
          (W.cell? ⟨w.heap.size + 1, 0, none⟩ = some (.slice c_gA c.gauges.length c_gc) ∧ W.cell? ⟨w.heap.size + 1, 1, none⟩ = some (.int .i64 c.size) ∧ W.cell? ⟨w.heap.size + 1, 2, none⟩ = some (.int .i64 c.load) ∧ W.cell? ⟨w.heap.size + 1, 3, none⟩ = some (.slice c_bA c.brakes.length c_bc) ∧ W.cell? ⟨w.heap.size + 1, 4, none⟩ = some (.slice c_hA c.heats.length c_hc) ∧ W.cell? ⟨w.heap.size + 1, 5, none⟩ = some (.bool c.hooks))) ∧
          (W.cell? ⟨bt, ot + k * 9, none⟩ = some (.int .i64 t.a) ∧ W.cell? ⟨bt, ot + k * 9 + 1, none⟩ = some (.int .i64 t.b) ∧ W.cell? ⟨bt, ot + k * 9 + 2, none⟩ = some (.int .i64 t.km) ∧
            W.cell? ⟨bt, ot + k * 9 + 3, none⟩ = some (.int .i64 t.gauge) ∧ W.cell? ⟨bt, ot + k * 9 + 4, none⟩ = some (.int .i64 t.room) ∧ W.cell? ⟨bt, ot + k * 9 + 5, none⟩ = some (.int .i64 t.brake) ∧
            W.cell? ⟨bt, ot + k * 9 + 6, none⟩ = some (.int .i64 t.heat) ∧ W.cell? ⟨bt, ot + k * 9 + 7, none⟩ = some (.int .i64 t.load) ∧ W.cell? ⟨bt, ot + k * 9 + 8, none⟩ = some (.bool t.ferry)))
          (first | go_keep | exact hS)
          (first
            | (go_at_call 95; refine (rbars_any t c c_gA c_bA c_hA c_gc c_bc c_hc wr.drew HRd.out).mono ?_; rintro e wa ⟨bA, bc, rfl, hown, hba⟩; have hb3 := HBD.out.trans (hba.mono HBD.out.size); have hS := And.intro (HKP.out _ hb3) (HCK.out _ hb3); have HBA := Lib.hid hb3; have HOA := Lib.hid (own_below hO.out ((Below.refl wr.heap.size wr).drew.trans hba) (Nat.le_refl _)); clear hown hba hb3))
        clear hS
        have hsa := HBA.out.size
        by_cases hz : (Pl.barred c t).length = 0
        · have hN3 := Lib.hid (openTo_in (n := n) (c := c) (k := k) (by rw [HG.out]; exact hz))
          rw [hz]
          clear hz
          go_wp2_with (at_builtin; refine wpl_app_ints rfl (.tmp 31) (.tmp 33) 22 rfl w1.heap.size Try.underlying22 int_info A cp (openTo n c k) rfl (own_alloc HOA.out _) (wa.heap.size + 1) (some ⟨wa.heap.size, 0, none⟩) 1 [(k : Int)] rfl (ints_one _ _ _ (by simp) (by omega)) (by simp; omega) (by simp; omega) ?_; intro A2 c2 w4 hown4 hg4 hat4; have hfar : Below w1.heap.size w1 w4 := HBA.out.trans (((Below.refl _ _).alloc hsa _).grown hg4 (by simp; omega) (own_from HOA.out)); have Hfar := Lib.hid hfar; have Hown4 := Lib.hid hown4; clear hfar hown4 hg4 hat4)
          go_roundw
          case rel => exact ⟨A2, c2, k + 1, by omega, (by rw [hN3.out]; simp), by go_num, (by show OwnInts _ _ _ _ _; rw [hN3.out]; exact Hown4.out), Hfar⟩
          case measure => simp [intOf]; omega
        · have hN3 := Lib.hid (openTo_out (n := n) (c := c) (k := k) (by rw [HG.out]; exact hz))
          have hq : (((Pl.barred c t).length : Int) == 0) = false := by rw [beq_eq_false_iff_ne]; omega
          clear hz
          go_wp2_with fail
          go_roundw
          case rel => exact ⟨A, cp, k + 1, by omega, (by rw [hN3.out]), by go_num, (by show OwnInts _ _ _ _ _; rw [hN3.out]; exact HOA.out), HBA⟩
          case measure => simp [intOf]; omega
      · obtain rfl : k = n.tracks.length := by omega
        have HW := Lib.hid (HW.out.trans (hB.out.mono HW.out.size))
        have HOW := Lib.hid hO.out
        have hbs := HW.out.size
        clear hO hB
        go_wp2_with fail
        go_ret2
        exact ⟨A, cp, by rw [hN.out, hN2.out]; rfl, by rw [hN.out, hN2.out]; exact own_lower HOW.out (by omega : w.heap.size ≤ w1.heap.size), HW.out⟩
  · have hN : Hid (openOut n c = ([], Pl.both n c)) := by show _ = _; rw [openOut, if_pos e1]
    have hq : (Pl.both n c != 0) = true := by rw [bne_iff_ne]; exact e1
    clear e1
    go_enter Try.func51, Try.ntmps51
    go_wp2_with fail
    refine (rboth_any n n_tA n_sA n_tc n_sc c c_gA c_bA c_hA c_gc c_bc c_hc _ (by simpa using Hn.out) (by simpa using Hr.out)).mono ?_
    rintro e w1 ⟨rfl, hb⟩
    have HW := Lib.hid ((HB2.out (.cells #[.int .i64 n.stops, .slice n_tA n.tracks.length n_tc, .slice n_sA n.shops.length n_sc] 27) (.cells #[.slice c_gA c.gauges.length c_gc, .int .i64 c.size, .int .i64 c.load, .slice c_bA c.brakes.length c_bc, .slice c_hA c.heats.length c_hc, .bool c.hooks] 30)).trans (hb.mono (by simp; omega)))
    clear hb
    go_wp2_with fail
    go_ret2
    exact ⟨none, 0, by rw [hN.out]; rfl, by rw [hN.out]; exact OwnInts.nil _ _, HW.out⟩
end Go.Proofs.Ytpbjpochjagicaa
