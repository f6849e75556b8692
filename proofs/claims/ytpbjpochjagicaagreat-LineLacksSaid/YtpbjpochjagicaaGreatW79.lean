/- Walks: all by which a line bars a car, as the reference says: bars (by gen_ref3.py). Walks: Bars and Open of the reference. Walks: large, EqualCoaches (by gen_large.py). Walks: EqualNets (by gen_equalnets.py). -/
import Derived.Test.YtpbjpochjagicaaGreatW77
import Derived.Test.YtpbjpochjagicaaGreatW70
import Derived.Deep.DeepCutAuto
import Derived.Test.YtpbjpochjagicaaGreatW60
import Derived.Test.YtpbjpochjagicaaGreatW40
namespace Go.Proofs.YtpbjpochjagicaaGreat
open Go.RowKit

def bar1 (c : Pl.Cch) (t : Pl.Trk) : List Int := if t.gauge ∈ c.gauges then [] else [1]
def bar2 (c : Pl.Cch) (t : Pl.Trk) : List Int := bar1 c t ++ if t.room < c.size then [2] else []
def bar3 (c : Pl.Cch) (t : Pl.Trk) : List Int := bar2 c t ++ if t.load < c.load then [3] else []
def bar4 (c : Pl.Cch) (t : Pl.Trk) : List Int := bar3 c t ++ if t.brake ≠ 0 ∧ t.brake ∉ c.brakes then [4] else []
def bar5 (c : Pl.Cch) (t : Pl.Trk) : List Int := bar4 c t ++ if t.heat ≠ 0 ∧ t.heat ∉ c.heats then [5] else []
def bar6 (c : Pl.Cch) (t : Pl.Trk) : List Int := bar5 c t ++ if t.ferry = true ∧ c.hooks = false then [6] else []
theorem bar6_all (c : Pl.Cch) (t : Pl.Trk) : bar6 c t = Pl.barred c t := rfl
theorem bar1_len (c : Pl.Cch) (t : Pl.Trk) : (bar1 c t).length ≤ 1 := by unfold bar1; split <;> simp
theorem bar2_len (c : Pl.Cch) (t : Pl.Trk) : (bar2 c t).length ≤ 2 := by have := bar1_len c t; unfold bar2; split <;> simp <;> omega
theorem bar3_len (c : Pl.Cch) (t : Pl.Trk) : (bar3 c t).length ≤ 3 := by have := bar2_len c t; unfold bar3; split <;> simp <;> omega
theorem bar4_len (c : Pl.Cch) (t : Pl.Trk) : (bar4 c t).length ≤ 4 := by have := bar3_len c t; unfold bar4; split <;> simp <;> omega
theorem bar5_len (c : Pl.Cch) (t : Pl.Trk) : (bar5 c t).length ≤ 5 := by have := bar4_len c t; unfold bar5; split <;> simp <;> omega

set_option maxRecDepth 20000 in
set_option maxHeartbeats 8000000 in
theorem rbars_any (t : Pl.Trk) (c : Pl.Cch) (c_gA c_bA c_hA : Option Addr) (c_gc c_bc c_hc : Nat) (w : World) (hr : CReads w w.heap.size c c_gA c_bA c_hA c_gc c_bc c_hc) :
    Calls Tryz.prog 107 #[.agg #[.int .i64 t.a, .int .i64 t.b, .int .i64 t.km, .int .i64 t.gauge, .int .i64 t.room, .int .i64 t.brake, .int .i64 t.heat, .int .i64 t.load, .bool t.ferry], .agg #[.slice c_gA c.gauges.length c_gc, .int .i64 c.size, .int .i64 c.load, .slice c_bA c.brakes.length c_bc, .slice c_hA c.heats.length c_hc, .bool c.hooks]] w (PutPost (Pl.barred c t) w) := by
  obtain ⟨w2, hw2⟩ : ∃ w2, w2 = (w.alloc (.cells #[.int .i64 t.a, .int .i64 t.b, .int .i64 t.km, .int .i64 t.gauge, .int .i64 t.room, .int .i64 t.brake, .int .i64 t.heat, .int .i64 t.load, .bool t.ferry] 107)).alloc (.cells #[.slice c_gA c.gauges.length c_gc, .int .i64 c.size, .int .i64 c.load, .slice c_bA c.brakes.length c_bc, .slice c_hA c.heats.length c_hc, .bool c.hooks] 27) := ⟨_, rfl⟩
  have hb2 : Below w.heap.size w w2 := by rw [hw2]; exact ((Below.refl _ _).alloc (Nat.le_refl _) _).alloc (by simp) _
  have hm0 : w2.heap[w.heap.size]? = some (.cells #[.int .i64 t.a, .int .i64 t.b, .int .i64 t.km, .int .i64 t.gauge, .int .i64 t.room, .int .i64 t.brake, .int .i64 t.heat, .int .i64 t.load, .bool t.ferry] 107 (0, 0)) := by rw [hw2]; exact blk_alloc (heap_alloc_new w _) _
  have hm1 : w2.heap[w.heap.size + 1]? = some (.cells #[.slice c_gA c.gauges.length c_gc, .int .i64 c.size, .int .i64 c.load, .slice c_bA c.brakes.length c_bc, .slice c_hA c.heats.length c_hc, .bool c.hooks] 27 (0, 0)) := by
    rw [hw2]
    have := heap_alloc_new (w.alloc (.cells #[.int .i64 t.a, .int .i64 t.b, .int .i64 t.km, .int .i64 t.gauge, .int .i64 t.room, .int .i64 t.brake, .int .i64 t.heat, .int .i64 t.load, .bool t.ferry] 107)) (.cells #[.slice c_gA c.gauges.length c_gc, .int .i64 c.size, .int .i64 c.load, .slice c_bA c.brakes.length c_bc, .slice c_hA c.heats.length c_hc, .bool c.hooks] 27)
    simpa using this
  have hs2 : w2.heap.size = w.heap.size + 1 + 1 := by rw [hw2]; simp
  have hr2 : CReads w2 w.heap.size c c_gA c_bA c_hA c_gc c_bc c_hc := hr.below hb2
  have lg := hr.lenG
  have lb := hr.lenB
  have lh := hr.lenH
  have HB2 := Lib.hid hb2
  have HM0 := Lib.hid hm0
  have HM1 := Lib.hid hm1
  have HS2 := Lib.hid hs2
  have HR2 := Lib.hid hr2
  have HKP : Hid (∀ W, Below w2.heap.size w2 W → (W.cell? ⟨w.heap.size, 3, none⟩ = some (.int .i64 t.gauge) ∧ W.cell? ⟨w.heap.size, 4, none⟩ = some (.int .i64 t.room) ∧ W.cell? ⟨w.heap.size, 5, none⟩ = some (.int .i64 t.brake) ∧ W.cell? ⟨w.heap.size, 6, none⟩ = some (.int .i64 t.heat) ∧ W.cell? ⟨w.heap.size, 7, none⟩ = some (.int .i64 t.load) ∧ W.cell? ⟨w.heap.size, 8, none⟩ = some (.bool t.ferry)) ∧
      (W.cell? ⟨w.heap.size + 1, 0, none⟩ = some (.slice c_gA c.gauges.length c_gc) ∧ W.cell? ⟨w.heap.size + 1, 1, none⟩ = some (.int .i64 c.size) ∧ W.cell? ⟨w.heap.size + 1, 2, none⟩ = some (.int .i64 c.load) ∧ W.cell? ⟨w.heap.size + 1, 3, none⟩ = some (.slice c_bA c.brakes.length c_bc) ∧ W.cell? ⟨w.heap.size + 1, 4, none⟩ = some (.slice c_hA c.heats.length c_hc) ∧ W.cell? ⟨w.heap.size + 1, 5, none⟩ = some (.bool c.hooks)) ∧
      CReads W w.heap.size c c_gA c_bA c_hA c_gc c_bc c_hc) := fun W hW => by
    have h0 := blk_below hm0 hW (by omega)
    have h1 := blk_below hm1 hW (by omega)
    exact ⟨⟨blk_cell h0 3, blk_cell h0 4, blk_cell h0 5, blk_cell h0 6, blk_cell h0 7, blk_cell h0 8⟩, ⟨blk_cell h1 0, blk_cell h1 1, blk_cell h1 2, blk_cell h1 3, blk_cell h1 4, blk_cell h1 5⟩, hr2.below (hW.mono (by omega))⟩
  clear hr hr2 hb2 hm0 hm1 hs2
  have hwl : w.heap.size < w2.heap.size := by have := HS2.out; omega
  have hwl1 : w.heap.size + 1 < w2.heap.size := by have := HS2.out; omega
  obtain ⟨⟨t3, t4, t5, t6, t7, t8⟩, ⟨x0, x1, x2, x3, x4, x5⟩, HC⟩ := HKP.out w2 (Below.refl _ _)
  have HC := Lib.hid HC
  go_enter Tryz.func107, Tryz.ntmps107
  go_upto_region 2 with fail
  rw [← hw2]
  clear hw2
  have HLEN : Hid (([] : List Int).length ≤ 10) := by show _ ≤ _; simp
  go_upto_if 11 with (go_at_call 81; refine (has_any c_gA c_gc c.gauges t.gauge _ w2 HC.out.gauges (by omega)).mono ?_; rintro e w' ⟨rfl, rfl⟩)
  go_cut [5] (fun v wx => ∃ (A : Option Addr) (cp : Nat), v = .slice A (bar1 c t).length cp ∧ Hid (OwnInts wx w2.heap.size A cp (bar1 c t)) ∧ Hid (Below w2.heap.size w2 wx))
  case first =>
    by_cases hp : t.gauge ∉ c.gauges
    · have hv : (!decide (t.gauge ∈ c.gauges)) = true := by simp [hp]
      have HN : Hid (bar1 c t = [1]) := by show _ = _; rw [bar1, if_neg hp]
      (try rw [hv])
      clear hp
      go_wp2_with (at_builtin; refine wpl_app_ints rfl (.tmp 12) (.tmp 13) 23 rfl w2.heap.size Tryz.underlying23 int_info none 0 (([] : List Int)) rfl (own_alloc (OwnInts.nil w2 w2.heap.size) _) (w2.heap.size + 1) (some ⟨w2.heap.size, 0, none⟩) 1 [1] rfl (ints_one _ _ _ (by simp) (by omega)) (by have := HLEN.out; first | omega | (simp; omega) | simp) (by have := (Below.refl w2.heap.size w2).size; first | omega | (simp; omega) | simp) ?_; intro A3 c3 w4' hown4 hg4 hat4; have HO4 := Lib.hid hown4; have HB4 := Lib.hid (((Below.refl w2.heap.size w2).alloc (Below.refl w2.heap.size w2).size (.cells #[.int .i64 1] 3)).grown hg4 (by have := (Below.refl w2.heap.size w2).size; first | omega | (simp; omega) | simp) (own_from (OwnInts.nil w2 w2.heap.size))); clear hown4 hg4 hat4)
      go_meet
      exact ⟨A3, c3, by rw [HN.out]; simp, by rw [HN.out]; exact HO4, HB4⟩
    · have hv : (!decide (t.gauge ∈ c.gauges)) = false := by simpa using hp
      have HN : Hid (bar1 c t = []) := by show _ = _; rw [bar1, if_pos (by simpa using hp)]
      (try rw [hv])
      clear hp
      go_wp2_with fail
      go_meet
      exact ⟨none, 0, by rw [HN.out]; rfl, by rw [HN.out]; exact (OwnInts.nil w2 w2.heap.size), (Below.refl w2.heap.size w2)⟩
  case rest =>
  obtain ⟨A, cp, rfl, hO, hB⟩ := hcut
  clear HLEN t3 t4 t5 t6 t7 t8 x0 x1 x2 x3 x4 x5 HC
  obtain ⟨wd, rfl⟩ : ∃ wd, wd = wc := ⟨_, rfl⟩
  have hsd := hB.out.size
  obtain ⟨⟨t3, t4, t5, t6, t7, t8⟩, ⟨x0, x1, x2, x3, x4, x5⟩, HC⟩ := HKP.out wd hB.out
  have HC := Lib.hid HC
  have HLEN : Hid ((bar1 c t).length ≤ 10) := by show _ ≤ _; have := bar1_len c t; omega
  go_upto_if 19 with fail
  go_cut [5] (fun v wx => ∃ (A : Option Addr) (cp : Nat), v = .slice A (bar2 c t).length cp ∧ Hid (OwnInts wx w2.heap.size A cp (bar2 c t)) ∧ Hid (Below w2.heap.size w2 wx))
  case first =>
    by_cases hp : (t.room < c.size)
    · have hv : decide (t.room < c.size) = true := decide_eq_true hp
      have HN : Hid (bar2 c t = bar1 c t ++ [2]) := by show _ = _; rw [bar2, if_pos hp]
      (try rw [hv])
      clear hp
      go_wp2_with (at_builtin; refine wpl_app_ints rfl (.tmp 20) (.tmp 21) 23 rfl w2.heap.size Tryz.underlying23 int_info A cp (bar1 c t) rfl (own_alloc hO.out _) (wd.heap.size + 1) (some ⟨wd.heap.size, 0, none⟩) 1 [2] rfl (ints_one _ _ _ (by simp) (by omega)) (by have := HLEN.out; first | omega | (simp; omega) | simp) (by have := hB.out.size; first | omega | (simp; omega) | simp) ?_; intro A3 c3 w4' hown4 hg4 hat4; have HO4 := Lib.hid hown4; have HB4 := Lib.hid ((hB.out.alloc hB.out.size (.cells #[.int .i64 2] 3)).grown hg4 (by have := hB.out.size; first | omega | (simp; omega) | simp) (own_from hO.out)); clear hown4 hg4 hat4)
      go_meet
      exact ⟨A3, c3, by rw [HN.out]; simp, by rw [HN.out]; exact HO4, HB4⟩
    · have hv : decide (t.room < c.size) = false := decide_eq_false hp
      have HN : Hid (bar2 c t = bar1 c t) := by show _ = _; rw [bar2, if_neg hp, List.append_nil]
      (try rw [hv])
      clear hp
      go_wp2_with fail
      go_meet
      exact ⟨A, cp, by rw [HN.out], by rw [HN.out]; exact hO, hB⟩
  case rest =>
  obtain ⟨A, cp, rfl, hO, hB⟩ := hcut
  clear HLEN t3 t4 t5 t6 t7 t8 x0 x1 x2 x3 x4 x5 HC
  obtain ⟨wd, rfl⟩ : ∃ wd, wd = wc := ⟨_, rfl⟩
  have hsd := hB.out.size
  obtain ⟨⟨t3, t4, t5, t6, t7, t8⟩, ⟨x0, x1, x2, x3, x4, x5⟩, HC⟩ := HKP.out wd hB.out
  have HC := Lib.hid HC
  have HLEN : Hid ((bar2 c t).length ≤ 10) := by show _ ≤ _; have := bar2_len c t; omega
  go_upto_if 27 with fail
  go_cut [5] (fun v wx => ∃ (A : Option Addr) (cp : Nat), v = .slice A (bar3 c t).length cp ∧ Hid (OwnInts wx w2.heap.size A cp (bar3 c t)) ∧ Hid (Below w2.heap.size w2 wx))
  case first =>
    by_cases hp : (t.load < c.load)
    · have hv : decide (t.load < c.load) = true := decide_eq_true hp
      have HN : Hid (bar3 c t = bar2 c t ++ [3]) := by show _ = _; rw [bar3, if_pos hp]
      (try rw [hv])
      clear hp
      go_wp2_with (at_builtin; refine wpl_app_ints rfl (.tmp 28) (.tmp 29) 23 rfl w2.heap.size Tryz.underlying23 int_info A cp (bar2 c t) rfl (own_alloc hO.out _) (wd.heap.size + 1) (some ⟨wd.heap.size, 0, none⟩) 1 [3] rfl (ints_one _ _ _ (by simp) (by omega)) (by have := HLEN.out; first | omega | (simp; omega) | simp) (by have := hB.out.size; first | omega | (simp; omega) | simp) ?_; intro A3 c3 w4' hown4 hg4 hat4; have HO4 := Lib.hid hown4; have HB4 := Lib.hid ((hB.out.alloc hB.out.size (.cells #[.int .i64 3] 3)).grown hg4 (by have := hB.out.size; first | omega | (simp; omega) | simp) (own_from hO.out)); clear hown4 hg4 hat4)
      go_meet
      exact ⟨A3, c3, by rw [HN.out]; simp, by rw [HN.out]; exact HO4, HB4⟩
    · have hv : decide (t.load < c.load) = false := decide_eq_false hp
      have HN : Hid (bar3 c t = bar2 c t) := by show _ = _; rw [bar3, if_neg hp, List.append_nil]
      (try rw [hv])
      clear hp
      go_wp2_with fail
      go_meet
      exact ⟨A, cp, by rw [HN.out], by rw [HN.out]; exact hO, hB⟩
  case rest =>
  obtain ⟨A, cp, rfl, hO, hB⟩ := hcut
  clear HLEN t3 t4 t5 t6 t7 t8 x0 x1 x2 x3 x4 x5 HC
  obtain ⟨wd, rfl⟩ : ∃ wd, wd = wc := ⟨_, rfl⟩
  have hsd := hB.out.size
  obtain ⟨⟨t3, t4, t5, t6, t7, t8⟩, ⟨x0, x1, x2, x3, x4, x5⟩, HC⟩ := HKP.out wd hB.out
  have HC := Lib.hid HC
  have HLEN : Hid ((bar3 c t).length ≤ 10) := by show _ ≤ _; have := bar3_len c t; omega
  go_upto_region 8 with fail
  go_cut [41] (fun v wx => v = .bool (decide (t.brake ≠ 0 ∧ t.brake ∉ c.brakes)) ∧ wx = wd)
  case first =>
    by_cases h1 : t.brake = 0
    · have hq : (t.brake != 0) = false := by simp [h1]
      have hd : decide (t.brake ≠ 0 ∧ t.brake ∉ c.brakes) = false := decide_eq_false (fun h => h.1 h1)
      have HD := Lib.hid hd
      clear hd h1
      go_wp2_with fail
      go_meet
      exact ⟨by rw [HD.out], rfl⟩
    · have hq : (t.brake != 0) = true := by simp [h1]
      have hd : decide (t.brake ≠ 0 ∧ t.brake ∉ c.brakes) = !decide (t.brake ∈ c.brakes) := by simp [h1]
      have HD := Lib.hid hd
      clear hd h1
      go_wp2_with (go_at_call 81; refine (has_any c_bA c_bc c.brakes t.brake _ wd HC.out.brakes (by omega)).mono ?_; rintro e w' ⟨rfl, rfl⟩)
      go_meet
      exact ⟨by rw [HD.out], rfl⟩
  case rest =>
  obtain ⟨rfl, rfl⟩ := hcut
  go_upto_if 41 with fail
  go_cut [5] (fun v wx => ∃ (A : Option Addr) (cp : Nat), v = .slice A (bar4 c t).length cp ∧ Hid (OwnInts wx w2.heap.size A cp (bar4 c t)) ∧ Hid (Below w2.heap.size w2 wx))
  case first =>
    by_cases hp : (t.brake ≠ 0 ∧ t.brake ∉ c.brakes)
    · have hv : decide (t.brake ≠ 0 ∧ t.brake ∉ c.brakes) = true := decide_eq_true hp
      have HN : Hid (bar4 c t = bar3 c t ++ [4]) := by show _ = _; rw [bar4, if_pos hp]
      (try rw [hv])
      clear hp
      go_wp2_with (at_builtin; refine wpl_app_ints rfl (.tmp 42) (.tmp 43) 23 rfl w2.heap.size Tryz.underlying23 int_info A cp (bar3 c t) rfl (own_alloc hO.out _) (wc.heap.size + 1) (some ⟨wc.heap.size, 0, none⟩) 1 [4] rfl (ints_one _ _ _ (by simp) (by omega)) (by have := HLEN.out; first | omega | (simp; omega) | simp) (by have := hB.out.size; first | omega | (simp; omega) | simp) ?_; intro A3 c3 w4' hown4 hg4 hat4; have HO4 := Lib.hid hown4; have HB4 := Lib.hid ((hB.out.alloc hB.out.size (.cells #[.int .i64 4] 3)).grown hg4 (by have := hB.out.size; first | omega | (simp; omega) | simp) (own_from hO.out)); clear hown4 hg4 hat4)
      go_meet
      exact ⟨A3, c3, by rw [HN.out]; simp, by rw [HN.out]; exact HO4, HB4⟩
    · have hv : decide (t.brake ≠ 0 ∧ t.brake ∉ c.brakes) = false := decide_eq_false hp
      have HN : Hid (bar4 c t = bar3 c t) := by show _ = _; rw [bar4, if_neg hp, List.append_nil]
      (try rw [hv])
      clear hp
      go_wp2_with fail
      go_meet
      exact ⟨A, cp, by rw [HN.out], by rw [HN.out]; exact hO, hB⟩
  case rest =>
  obtain ⟨A, cp, rfl, hO, hB⟩ := hcut
  clear HLEN t3 t4 t5 t6 t7 t8 x0 x1 x2 x3 x4 x5 HC
  obtain ⟨wd, rfl⟩ : ∃ wd, wd = wc := ⟨_, rfl⟩
  have hsd := hB.out.size
  obtain ⟨⟨t3, t4, t5, t6, t7, t8⟩, ⟨x0, x1, x2, x3, x4, x5⟩, HC⟩ := HKP.out wd hB.out
  have HC := Lib.hid HC
  have HLEN : Hid ((bar4 c t).length ≤ 10) := by show _ ≤ _; have := bar4_len c t; omega
  go_upto_region 10 with fail
  go_cut [55] (fun v wx => v = .bool (decide (t.heat ≠ 0 ∧ t.heat ∉ c.heats)) ∧ wx = wd)
  case first =>
    by_cases h1 : t.heat = 0
    · have hq : (t.heat != 0) = false := by simp [h1]
      have hd : decide (t.heat ≠ 0 ∧ t.heat ∉ c.heats) = false := decide_eq_false (fun h => h.1 h1)
      have HD := Lib.hid hd
      clear hd h1
      go_wp2_with fail
      go_meet
      exact ⟨by rw [HD.out], rfl⟩
    · have hq : (t.heat != 0) = true := by simp [h1]
      have hd : decide (t.heat ≠ 0 ∧ t.heat ∉ c.heats) = !decide (t.heat ∈ c.heats) := by simp [h1]
      have HD := Lib.hid hd
      clear hd h1
      go_wp2_with (go_at_call 81; refine (has_any c_hA c_hc c.heats t.heat _ wd HC.out.heats (by omega)).mono ?_; rintro e w' ⟨rfl, rfl⟩)
      go_meet
      exact ⟨by rw [HD.out], rfl⟩
  case rest =>
  obtain ⟨rfl, rfl⟩ := hcut
  go_upto_if 55 with fail
  go_cut [5] (fun v wx => ∃ (A : Option Addr) (cp : Nat), v = .slice A (bar5 c t).length cp ∧ Hid (OwnInts wx w2.heap.size A cp (bar5 c t)) ∧ Hid (Below w2.heap.size w2 wx))
  case first =>
    by_cases hp : (t.heat ≠ 0 ∧ t.heat ∉ c.heats)
    · have hv : decide (t.heat ≠ 0 ∧ t.heat ∉ c.heats) = true := decide_eq_true hp
      have HN : Hid (bar5 c t = bar4 c t ++ [5]) := by show _ = _; rw [bar5, if_pos hp]
      (try rw [hv])
      clear hp
      go_wp2_with (at_builtin; refine wpl_app_ints rfl (.tmp 56) (.tmp 57) 23 rfl w2.heap.size Tryz.underlying23 int_info A cp (bar4 c t) rfl (own_alloc hO.out _) (wc.heap.size + 1) (some ⟨wc.heap.size, 0, none⟩) 1 [5] rfl (ints_one _ _ _ (by simp) (by omega)) (by have := HLEN.out; first | omega | (simp; omega) | simp) (by have := hB.out.size; first | omega | (simp; omega) | simp) ?_; intro A3 c3 w4' hown4 hg4 hat4; have HO4 := Lib.hid hown4; have HB4 := Lib.hid ((hB.out.alloc hB.out.size (.cells #[.int .i64 5] 3)).grown hg4 (by have := hB.out.size; first | omega | (simp; omega) | simp) (own_from hO.out)); clear hown4 hg4 hat4)
      go_meet
      exact ⟨A3, c3, by rw [HN.out]; simp, by rw [HN.out]; exact HO4, HB4⟩
    · have hv : decide (t.heat ≠ 0 ∧ t.heat ∉ c.heats) = false := decide_eq_false hp
      have HN : Hid (bar5 c t = bar4 c t) := by show _ = _; rw [bar5, if_neg hp, List.append_nil]
      (try rw [hv])
      clear hp
      go_wp2_with fail
      go_meet
      exact ⟨A, cp, by rw [HN.out], by rw [HN.out]; exact hO, hB⟩
  case rest =>
  obtain ⟨A, cp, rfl, hO, hB⟩ := hcut
  clear HLEN t3 t4 t5 t6 t7 t8 x0 x1 x2 x3 x4 x5 HC
  obtain ⟨wd, rfl⟩ : ∃ wd, wd = wc := ⟨_, rfl⟩
  have hsd := hB.out.size
  obtain ⟨⟨t3, t4, t5, t6, t7, t8⟩, ⟨x0, x1, x2, x3, x4, x5⟩, HC⟩ := HKP.out wd hB.out
  have HC := Lib.hid HC
  have HLEN : Hid ((bar5 c t).length ≤ 10) := by show _ ≤ _; have := bar5_len c t; omega
  go_upto_region 12 with fail
  go_cut [65] (fun v wx => v = .bool (decide (t.ferry = true ∧ c.hooks = false)) ∧ wx = wd)
  case first =>
    by_cases hf : t.ferry = true
    · rw [hf] at t8
      have HF := Lib.hid hf
      clear hf
      go_wp2_with fail
      go_meet
      exact ⟨by simp [HF.out], rfl⟩
    · rw [show t.ferry = false by simpa using hf] at t8
      have HF := Lib.hid hf
      clear hf
      go_wp2_with fail
      go_meet
      exact ⟨by simp [HF.out], rfl⟩
  case rest =>
  obtain ⟨rfl, rfl⟩ := hcut
  go_upto_if 65 with fail
  go_cut [5] (fun v wx => ∃ (A : Option Addr) (cp : Nat), v = .slice A (bar6 c t).length cp ∧ Hid (OwnInts wx w2.heap.size A cp (bar6 c t)) ∧ Hid (Below w2.heap.size w2 wx))
  case first =>
    by_cases hp : (t.ferry = true ∧ c.hooks = false)
    · have hv : decide (t.ferry = true ∧ c.hooks = false) = true := decide_eq_true hp
      have HN : Hid (bar6 c t = bar5 c t ++ [6]) := by show _ = _; rw [bar6, if_pos hp]
      (try rw [hv])
      clear hp
      go_wp2_with (at_builtin; refine wpl_app_ints rfl (.tmp 66) (.tmp 67) 23 rfl w2.heap.size Tryz.underlying23 int_info A cp (bar5 c t) rfl (own_alloc hO.out _) (wc.heap.size + 1) (some ⟨wc.heap.size, 0, none⟩) 1 [6] rfl (ints_one _ _ _ (by simp) (by omega)) (by have := HLEN.out; first | omega | (simp; omega) | simp) (by have := hB.out.size; first | omega | (simp; omega) | simp) ?_; intro A3 c3 w4' hown4 hg4 hat4; have HO4 := Lib.hid hown4; have HB4 := Lib.hid ((hB.out.alloc hB.out.size (.cells #[.int .i64 6] 3)).grown hg4 (by have := hB.out.size; first | omega | (simp; omega) | simp) (own_from hO.out)); clear hown4 hg4 hat4)
      go_meet
      exact ⟨A3, c3, by rw [HN.out]; simp, by rw [HN.out]; exact HO4, HB4⟩
    · have hv : decide (t.ferry = true ∧ c.hooks = false) = false := decide_eq_false hp
      have HN : Hid (bar6 c t = bar5 c t) := by show _ = _; rw [bar6, if_neg hp, List.append_nil]
      (try rw [hv])
      clear hp
      go_wp2_with fail
      go_meet
      exact ⟨A, cp, by rw [HN.out], by rw [HN.out]; exact hO, hB⟩
  case rest =>
  obtain ⟨A, cp, rfl, hO, hB⟩ := hcut
  clear HLEN t3 t4 t5 t6 t7 t8 x0 x1 x2 x3 x4 x5 HC
  obtain ⟨wd, rfl⟩ : ∃ wd, wd = wc := ⟨_, rfl⟩
  have hsd := hB.out.size
  obtain ⟨⟨t3, t4, t5, t6, t7, t8⟩, ⟨x0, x1, x2, x3, x4, x5⟩, HC⟩ := HKP.out wd hB.out
  have HC := Lib.hid HC
  go_wp2_with fail
  go_ret
  exact ⟨A, cp, by rw [← bar6_all]; rfl, by rw [← bar6_all]; exact own_weaken (base := w.heap.size) hO.out HB2.out.size, HB2.out.trans (hB.out.mono HB2.out.size)⟩
end Go.Proofs.YtpbjpochjagicaaGreat

namespace Go.Proofs.YtpbjpochjagicaaGreat
open Go.RowKit

/-- What is kept of a net and a car in the boxes P, Q while memory grows: their cells, and those of line number k. -/
theorem boxes_keep {w1 : World} {P Q : Nat} (n : Pl.Nt) (n_tA n_sA : Option Addr) (n_tc n_sc : Nat) (c : Pl.Cch) (c_gA c_bA c_hA : Option Addr) (c_gc c_bc c_hc : Nat) (hP : w1.heap[P]? = some (.cells #[.int .i64 n.stops, .slice n_tA n.tracks.length n_tc, .slice n_sA n.shops.length n_sc] 25 (0, 0))) (hQ : w1.heap[Q]? = some (.cells #[.slice c_gA c.gauges.length c_gc, .int .i64 c.size, .int .i64 c.load, .slice c_bA c.brakes.length c_bc, .slice c_hA c.heats.length c_hc, .bool c.hooks] 27 (0, 0))) :
    ∀ W, Below w1.heap.size w1 W → (W.cell? ⟨P, 0, none⟩ = some (.int .i64 n.stops) ∧ W.cell? ⟨P, 1, none⟩ = some (.slice n_tA n.tracks.length n_tc) ∧ W.cell? ⟨P, 2, none⟩ = some (.slice n_sA n.shops.length n_sc)) ∧
      (W.cell? ⟨Q, 0, none⟩ = some (.slice c_gA c.gauges.length c_gc) ∧ W.cell? ⟨Q, 1, none⟩ = some (.int .i64 c.size) ∧ W.cell? ⟨Q, 2, none⟩ = some (.int .i64 c.load) ∧ W.cell? ⟨Q, 3, none⟩ = some (.slice c_bA c.brakes.length c_bc) ∧ W.cell? ⟨Q, 4, none⟩ = some (.slice c_hA c.heats.length c_hc) ∧ W.cell? ⟨Q, 5, none⟩ = some (.bool c.hooks)) := fun W hW => by
  have h0 := blk_below hP hW (lt_of_block hP)
  have h1 := blk_below hQ hW (lt_of_block hQ)
  exact ⟨⟨blk_cell h0 0, blk_cell h0 1, blk_cell h0 2⟩, blk_cell h1 0, blk_cell h1 1, blk_cell h1 2, blk_cell h1 3, blk_cell h1 4, blk_cell h1 5⟩

end Go.Proofs.YtpbjpochjagicaaGreat

namespace Go.Proofs.YtpbjpochjagicaaGreat
open Go.RowKit

/-- More than twenty of a kind. -/
def largeIn (n : Pl.Nt) (c : Pl.Cch) : Bool := decide (20 < n.tracks.length) || decide (20 < n.shops.length) || decide (20 < c.gauges.length) || decide (20 < c.brakes.length) || decide (20 < c.heats.length)

theorem two_new (w : World) (cs ds : Array Value) (t u : Nat) :
    ((w.alloc (.cells cs t)).alloc (.cells ds u)).heap[w.heap.size]? = some (.cells cs t (0, 0)) ∧ ((w.alloc (.cells cs t)).alloc (.cells ds u)).heap[w.heap.size + 1]? = some (.cells ds u (0, 0)) ∧
      Below w.heap.size w ((w.alloc (.cells cs t)).alloc (.cells ds u)) ∧ ((w.alloc (.cells cs t)).alloc (.cells ds u)).heap.size = w.heap.size + 2 := by
  refine ⟨blk_alloc (heap_alloc_new w _) _, ?_, ((Below.refl _ _).alloc (Nat.le_refl _) _).alloc (by simp) _, by simp⟩
  have := heap_alloc_new (w.alloc (.cells cs t)) (.cells ds u)
  simpa using this

set_option maxRecDepth 20000 in
set_option maxHeartbeats 4000000 in
theorem large_any (n : Pl.Nt) (n_tA n_sA : Option Addr) (n_tc n_sc : Nat) (c : Pl.Cch) (c_gA c_bA c_hA : Option Addr) (c_gc c_bc c_hc : Nat) (w : World) : Calls Tryz.prog 7 #[.agg #[.int .i64 n.stops, .slice n_tA n.tracks.length n_tc, .slice n_sA n.shops.length n_sc], .agg #[.slice c_gA c.gauges.length c_gc, .int .i64 c.size, .int .i64 c.load, .slice c_bA c.brakes.length c_bc, .slice c_hA c.heats.length c_hc, .bool c.hooks]] w fun e w' => e = .returned (.bool (largeIn n c)) ∧ Below w.heap.size w w' := by
  obtain ⟨m0, m1, hb, hs⟩ := two_new w #[.int .i64 n.stops, .slice n_tA n.tracks.length n_tc, .slice n_sA n.shops.length n_sc] #[.slice c_gA c.gauges.length c_gc, .int .i64 c.size, .int .i64 c.load, .slice c_bA c.brakes.length c_bc, .slice c_hA c.heats.length c_hc, .bool c.hooks] 25 27
  obtain ⟨⟨z0, z1, z2⟩, x0, x1, x2, x3, x4, x5⟩ := boxes_keep n n_tA n_sA n_tc n_sc c c_gA c_bA c_hA c_gc c_bc c_hc m0 m1 _ (Below.refl _ _)
  by_cases h0 : 20 < n.tracks.length
  · have f0 : decide ((20 : Int) < (n.tracks.length : Int)) = true := by simp; omega
    have g0 : ((20 : Int) < (n.tracks.length : Int)) := by omega
    have hN : largeIn n c = true := by simp [largeIn, h0]
    rw [hN]
    clear hN h0
    go_enter Tryz.func7, Tryz.ntmps7
    go_wp2_with fail
    generalize ((w.alloc (.cells #[.int .i64 n.stops, .slice n_tA n.tracks.length n_tc, .slice n_sA n.shops.length n_sc] 25)).alloc (.cells #[.slice c_gA c.gauges.length c_gc, .int .i64 c.size, .int .i64 c.load, .slice c_bA c.brakes.length c_bc, .slice c_hA c.heats.length c_hc, .bool c.hooks] 27)) = wt at *
    go_wp2_with fail
    go_ret
    exact ⟨rfl, hb⟩
  · by_cases h1 : 20 < n.shops.length
    · have f0 : decide ((20 : Int) < (n.tracks.length : Int)) = false := by simp; omega
      have g0 : ¬ ((20 : Int) < (n.tracks.length : Int)) := by omega
      have f1 : decide ((20 : Int) < (n.shops.length : Int)) = true := by simp; omega
      have g1 : ((20 : Int) < (n.shops.length : Int)) := by omega
      have hN : largeIn n c = true := by simp [largeIn, h0, h1]
      rw [hN]
      clear hN h0 h1
      go_enter Tryz.func7, Tryz.ntmps7
      go_wp2_with fail
      generalize ((w.alloc (.cells #[.int .i64 n.stops, .slice n_tA n.tracks.length n_tc, .slice n_sA n.shops.length n_sc] 25)).alloc (.cells #[.slice c_gA c.gauges.length c_gc, .int .i64 c.size, .int .i64 c.load, .slice c_bA c.brakes.length c_bc, .slice c_hA c.heats.length c_hc, .bool c.hooks] 27)) = wt at *
      go_wp2_with fail
      go_ret
      exact ⟨rfl, hb⟩
    · by_cases h2 : 20 < c.gauges.length
      · have f0 : decide ((20 : Int) < (n.tracks.length : Int)) = false := by simp; omega
        have g0 : ¬ ((20 : Int) < (n.tracks.length : Int)) := by omega
        have f1 : decide ((20 : Int) < (n.shops.length : Int)) = false := by simp; omega
        have g1 : ¬ ((20 : Int) < (n.shops.length : Int)) := by omega
        have f2 : decide ((20 : Int) < (c.gauges.length : Int)) = true := by simp; omega
        have g2 : ((20 : Int) < (c.gauges.length : Int)) := by omega
        have hN : largeIn n c = true := by simp [largeIn, h0, h1, h2]
        rw [hN]
        clear hN h0 h1 h2
        go_enter Tryz.func7, Tryz.ntmps7
        go_wp2_with fail
        generalize ((w.alloc (.cells #[.int .i64 n.stops, .slice n_tA n.tracks.length n_tc, .slice n_sA n.shops.length n_sc] 25)).alloc (.cells #[.slice c_gA c.gauges.length c_gc, .int .i64 c.size, .int .i64 c.load, .slice c_bA c.brakes.length c_bc, .slice c_hA c.heats.length c_hc, .bool c.hooks] 27)) = wt at *
        go_wp2_with fail
        go_ret
        exact ⟨rfl, hb⟩
      · by_cases h3 : 20 < c.brakes.length
        · have f0 : decide ((20 : Int) < (n.tracks.length : Int)) = false := by simp; omega
          have g0 : ¬ ((20 : Int) < (n.tracks.length : Int)) := by omega
          have f1 : decide ((20 : Int) < (n.shops.length : Int)) = false := by simp; omega
          have g1 : ¬ ((20 : Int) < (n.shops.length : Int)) := by omega
          have f2 : decide ((20 : Int) < (c.gauges.length : Int)) = false := by simp; omega
          have g2 : ¬ ((20 : Int) < (c.gauges.length : Int)) := by omega
          have f3 : decide ((20 : Int) < (c.brakes.length : Int)) = true := by simp; omega
          have g3 : ((20 : Int) < (c.brakes.length : Int)) := by omega
          have hN : largeIn n c = true := by simp [largeIn, h0, h1, h2, h3]
          rw [hN]
          clear hN h0 h1 h2 h3
          go_enter Tryz.func7, Tryz.ntmps7
          go_wp2_with fail
          generalize ((w.alloc (.cells #[.int .i64 n.stops, .slice n_tA n.tracks.length n_tc, .slice n_sA n.shops.length n_sc] 25)).alloc (.cells #[.slice c_gA c.gauges.length c_gc, .int .i64 c.size, .int .i64 c.load, .slice c_bA c.brakes.length c_bc, .slice c_hA c.heats.length c_hc, .bool c.hooks] 27)) = wt at *
          go_wp2_with fail
          go_ret
          exact ⟨rfl, hb⟩
        · by_cases h4 : 20 < c.heats.length
          · have f0 : decide ((20 : Int) < (n.tracks.length : Int)) = false := by simp; omega
            have g0 : ¬ ((20 : Int) < (n.tracks.length : Int)) := by omega
            have f1 : decide ((20 : Int) < (n.shops.length : Int)) = false := by simp; omega
            have g1 : ¬ ((20 : Int) < (n.shops.length : Int)) := by omega
            have f2 : decide ((20 : Int) < (c.gauges.length : Int)) = false := by simp; omega
            have g2 : ¬ ((20 : Int) < (c.gauges.length : Int)) := by omega
            have f3 : decide ((20 : Int) < (c.brakes.length : Int)) = false := by simp; omega
            have g3 : ¬ ((20 : Int) < (c.brakes.length : Int)) := by omega
            have f4 : decide ((20 : Int) < (c.heats.length : Int)) = true := by simp; omega
            have g4 : ((20 : Int) < (c.heats.length : Int)) := by omega
            have hN : largeIn n c = true := by simp [largeIn, h0, h1, h2, h3, h4]
            rw [hN]
            clear hN h0 h1 h2 h3 h4
            go_enter Tryz.func7, Tryz.ntmps7
            go_wp2_with fail
            generalize ((w.alloc (.cells #[.int .i64 n.stops, .slice n_tA n.tracks.length n_tc, .slice n_sA n.shops.length n_sc] 25)).alloc (.cells #[.slice c_gA c.gauges.length c_gc, .int .i64 c.size, .int .i64 c.load, .slice c_bA c.brakes.length c_bc, .slice c_hA c.heats.length c_hc, .bool c.hooks] 27)) = wt at *
            go_wp2_with fail
            go_ret
            exact ⟨rfl, hb⟩
          · have f0 : decide ((20 : Int) < (n.tracks.length : Int)) = false := by simp; omega
            have g0 : ¬ ((20 : Int) < (n.tracks.length : Int)) := by omega
            have f1 : decide ((20 : Int) < (n.shops.length : Int)) = false := by simp; omega
            have g1 : ¬ ((20 : Int) < (n.shops.length : Int)) := by omega
            have f2 : decide ((20 : Int) < (c.gauges.length : Int)) = false := by simp; omega
            have g2 : ¬ ((20 : Int) < (c.gauges.length : Int)) := by omega
            have f3 : decide ((20 : Int) < (c.brakes.length : Int)) = false := by simp; omega
            have g3 : ¬ ((20 : Int) < (c.brakes.length : Int)) := by omega
            have f4 : decide ((20 : Int) < (c.heats.length : Int)) = false := by simp; omega
            have g4 : ¬ ((20 : Int) < (c.heats.length : Int)) := by omega
            have hN : largeIn n c = false := by simp [largeIn, h0, h1, h2, h3, h4]
            rw [hN]
            clear hN h0 h1 h2 h3 h4
            go_enter Tryz.func7, Tryz.ntmps7
            go_wp2_with fail
            generalize ((w.alloc (.cells #[.int .i64 n.stops, .slice n_tA n.tracks.length n_tc, .slice n_sA n.shops.length n_sc] 25)).alloc (.cells #[.slice c_gA c.gauges.length c_gc, .int .i64 c.size, .int .i64 c.load, .slice c_bA c.brakes.length c_bc, .slice c_hA c.heats.length c_hc, .bool c.hooks] 27)) = wt at *
            go_wp2_with fail
            go_ret
            exact ⟨rfl, hb⟩

theorem equal_same (A B : Option Addr) (ca cb : Nat) (xs : List Int) (w : World) (hx : Ints w w.heap.size A xs) (hy : Ints w w.heap.size B xs) (hl : xs.length ≤ 1000) :
    Calls Tryz.prog 15 #[.slice A xs.length ca, .slice B xs.length cb] w fun e w' => e = .returned (.bool true) ∧ Below w.heap.size w w' :=
  (equal_any A B ca cb xs xs w hx hy hl hl).mono fun _ _ h => by simpa using h

set_option maxRecDepth 20000 in
set_option maxHeartbeats 4000000 in
theorem equalCoach_any (c : Pl.Cch) (c_gA c_bA c_hA : Option Addr) (c_gc c_bc c_hc : Nat) (d_gA d_bA d_hA : Option Addr) (d_gc d_bc d_hc : Nat) (w : World) (hr : CReads w w.heap.size c c_gA c_bA c_hA c_gc c_bc c_hc) (hd : CReads w w.heap.size c d_gA d_bA d_hA d_gc d_bc d_hc)
    (lg : c.gauges.length ≤ 1000) (lb : c.brakes.length ≤ 1000) (lh : c.heats.length ≤ 1000) :
    Calls Tryz.prog 49 #[.agg #[.slice c_gA c.gauges.length c_gc, .int .i64 c.size, .int .i64 c.load, .slice c_bA c.brakes.length c_bc, .slice c_hA c.heats.length c_hc, .bool c.hooks], .agg #[.slice d_gA c.gauges.length d_gc, .int .i64 c.size, .int .i64 c.load, .slice d_bA c.brakes.length d_bc, .slice d_hA c.heats.length d_hc, .bool c.hooks]] w fun e w' => e = .returned (.bool true) ∧ Below w.heap.size w w' := by
  obtain ⟨m0, m1, hb, hs⟩ := two_new w #[.slice c_gA c.gauges.length c_gc, .int .i64 c.size, .int .i64 c.load, .slice c_bA c.brakes.length c_bc, .slice c_hA c.heats.length c_hc, .bool c.hooks] #[.slice d_gA c.gauges.length d_gc, .int .i64 c.size, .int .i64 c.load, .slice d_bA c.brakes.length d_bc, .slice d_hA c.heats.length d_hc, .bool c.hooks] 27 27
  have hkp : ∀ W, Below (w.heap.size + 2) ((w.alloc (.cells #[.slice c_gA c.gauges.length c_gc, .int .i64 c.size, .int .i64 c.load, .slice c_bA c.brakes.length c_bc, .slice c_hA c.heats.length c_hc, .bool c.hooks] 27)).alloc (.cells #[.slice d_gA c.gauges.length d_gc, .int .i64 c.size, .int .i64 c.load, .slice d_bA c.brakes.length d_bc, .slice d_hA c.heats.length d_hc, .bool c.hooks] 27)) W →
      (W.cell? ⟨w.heap.size, 0, none⟩ = some (.slice c_gA c.gauges.length c_gc) ∧ W.cell? ⟨w.heap.size, 1, none⟩ = some (.int .i64 c.size) ∧ W.cell? ⟨w.heap.size, 2, none⟩ = some (.int .i64 c.load) ∧ W.cell? ⟨w.heap.size, 3, none⟩ = some (.slice c_bA c.brakes.length c_bc) ∧ W.cell? ⟨w.heap.size, 4, none⟩ = some (.slice c_hA c.heats.length c_hc) ∧ W.cell? ⟨w.heap.size, 5, none⟩ = some (.bool c.hooks)) ∧
      (W.cell? ⟨w.heap.size + 1, 0, none⟩ = some (.slice d_gA c.gauges.length d_gc) ∧ W.cell? ⟨w.heap.size + 1, 1, none⟩ = some (.int .i64 c.size) ∧ W.cell? ⟨w.heap.size + 1, 2, none⟩ = some (.int .i64 c.load) ∧ W.cell? ⟨w.heap.size + 1, 3, none⟩ = some (.slice d_bA c.brakes.length d_bc) ∧ W.cell? ⟨w.heap.size + 1, 4, none⟩ = some (.slice d_hA c.heats.length d_hc) ∧ W.cell? ⟨w.heap.size + 1, 5, none⟩ = some (.bool c.hooks)) := fun W hW => by
    have h0 := blk_below m0 hW (by omega)
    have h1 := blk_below m1 hW (by omega)
    exact ⟨⟨blk_cell h0 0, blk_cell h0 1, blk_cell h0 2, blk_cell h0 3, blk_cell h0 4, blk_cell h0 5⟩, blk_cell h1 0, blk_cell h1 1, blk_cell h1 2, blk_cell h1 3, blk_cell h1 4, blk_cell h1 5⟩
  have HR := Lib.hid ((hr.below hb).more (B' := w.heap.size + 2) (by omega))
  have HD := Lib.hid ((hd.below hb).more (B' := w.heap.size + 2) (by omega))
  have HS := Lib.hid hs
  have HB := Lib.hid hb
  have HKP := Lib.hid hkp
  have f1 : (c.size == c.size) = true := by simp
  have f2 : (c.load == c.load) = true := by simp
  have f3 : (c.hooks == c.hooks) = true := by simp
  obtain ⟨⟨z0, z1, z2, z3, z4, z5⟩, x0, x1, x2, x3, x4, x5⟩ := hkp _ (Below.refl _ _)
  clear hkp m0 m1 hb hs hr hd
  go_enter Tryz.func49, Tryz.ntmps49
  go_wp2_with fail
  generalize ((w.alloc (.cells #[.slice c_gA c.gauges.length c_gc, .int .i64 c.size, .int .i64 c.load, .slice c_bA c.brakes.length c_bc, .slice c_hA c.heats.length c_hc, .bool c.hooks] 27)).alloc (.cells #[.slice d_gA c.gauges.length d_gc, .int .i64 c.size, .int .i64 c.load, .slice d_bA c.brakes.length d_bc, .slice d_hA c.heats.length d_hc, .bool c.hooks] 27)) = wt at *
  go_wp2_with fail

  refine (equal_same _ _ _ _ _ _ (by rw [HS.out]; exact HR.out.gauges) (by rw [HS.out]; exact HD.out.gauges) lg).mono ?_
  rintro e w1 ⟨rfl, hb⟩
  rw [HS.out] at hb
  have HB1 := Lib.hid hb
  obtain ⟨⟨z0, z1, z2, z3, z4, z5⟩, x0, x1, x2, x3, x4, x5⟩ := HKP.out _ hb
  clear hb
  go_wp2_with fail
  have HSz1 : Hid (w.heap.size + 2 ≤ w1.heap.size) := HS.out ▸ HB1.out.size
  refine (equal_same _ _ _ _ _ _ ((HR.out.below HB1.out).brakes.more HSz1.out) ((HD.out.below HB1.out).brakes.more HSz1.out) lb).mono ?_
  rintro e w2 ⟨rfl, hb⟩
  have HB2 := Lib.hid (HB1.out.trans (hb.mono HSz1.out))
  obtain ⟨⟨z0, z1, z2, z3, z4, z5⟩, x0, x1, x2, x3, x4, x5⟩ := HKP.out _ HB2.out
  clear hb
  go_wp2_with fail
  have HSz2 : Hid (w.heap.size + 2 ≤ w2.heap.size) := HS.out ▸ HB2.out.size
  refine (equal_same _ _ _ _ _ _ ((HR.out.below HB2.out).heats.more HSz2.out) ((HD.out.below HB2.out).heats.more HSz2.out) lh).mono ?_
  rintro e w3 ⟨rfl, hb⟩
  have HB3 := Lib.hid (HB2.out.trans (hb.mono HSz2.out))
  clear hb
  go_wp2_with fail
  go_ret
  exact ⟨rfl, HB.out.trans (HB3.out.mono (by omega))⟩
end Go.Proofs.YtpbjpochjagicaaGreat

namespace Go.Proofs.YtpbjpochjagicaaGreat
open Go.RowKit

set_option maxRecDepth 20000 in
set_option maxHeartbeats 4000000 in
theorem equalNet_any (n : Pl.Nt) (n_tA n_sA : Option Addr) (n_tc n_sc : Nat) (m_tA m_sA : Option Addr) (m_tc m_sc : Nat) (w : World) (hn : NReads w w.heap.size n n_tA n_sA n_tc n_sc) (hm : NReads w w.heap.size n m_tA m_sA m_tc m_sc) (lt : n.tracks.length ≤ 1000) (ls : n.shops.length ≤ 1000) :
    Calls Tryz.prog 48 #[.agg #[.int .i64 n.stops, .slice n_tA n.tracks.length n_tc, .slice n_sA n.shops.length n_sc], .agg #[.int .i64 n.stops, .slice m_tA n.tracks.length m_tc, .slice m_sA n.shops.length m_sc]] w fun e w' => e = .returned (.bool true) ∧ Below w.heap.size w w' := by
  obtain ⟨m0, m1, hb, hs⟩ := two_new w #[.int .i64 n.stops, .slice n_tA n.tracks.length n_tc, .slice n_sA n.shops.length n_sc] #[.int .i64 n.stops, .slice m_tA n.tracks.length m_tc, .slice m_sA n.shops.length m_sc] 25 25
  have hkp : ∀ W, Below (w.heap.size + 2) ((w.alloc (.cells #[.int .i64 n.stops, .slice n_tA n.tracks.length n_tc, .slice n_sA n.shops.length n_sc] 25)).alloc (.cells #[.int .i64 n.stops, .slice m_tA n.tracks.length m_tc, .slice m_sA n.shops.length m_sc] 25)) W →
      (W.cell? ⟨w.heap.size, 0, none⟩ = some (.int .i64 n.stops) ∧ W.cell? ⟨w.heap.size, 1, none⟩ = some (.slice n_tA n.tracks.length n_tc) ∧ W.cell? ⟨w.heap.size, 2, none⟩ = some (.slice n_sA n.shops.length n_sc)) ∧
      (W.cell? ⟨w.heap.size + 1, 0, none⟩ = some (.int .i64 n.stops) ∧ W.cell? ⟨w.heap.size + 1, 1, none⟩ = some (.slice m_tA n.tracks.length m_tc) ∧ W.cell? ⟨w.heap.size + 1, 2, none⟩ = some (.slice m_sA n.shops.length m_sc)) := fun W hW => by
    have h0 := blk_below m0 hW (by omega)
    have h1 := blk_below m1 hW (by omega)
    exact ⟨⟨blk_cell h0 0, blk_cell h0 1, blk_cell h0 2⟩, blk_cell h1 0, blk_cell h1 1, blk_cell h1 2⟩
  have HN := Lib.hid ((hn.below hb).more (B' := w.heap.size + 2) (by omega))
  have HM := Lib.hid ((hm.below hb).more (B' := w.heap.size + 2) (by omega))
  have HS := Lib.hid hs
  have HB := Lib.hid hb
  have HKP := Lib.hid hkp
  have f1 : (n.stops == n.stops) = true := by simp
  have f2 : ((n.tracks.length : Int) == (n.tracks.length : Int)) = true := by simp
  obtain ⟨⟨z0, z1, z2⟩, x0, x1, x2⟩ := hkp _ (Below.refl _ _)
  clear hkp m0 m1 hb hs hn hm
  go_enter Tryz.func48, Tryz.ntmps48
  go_wp2_with fail
  generalize ((w.alloc (.cells #[.int .i64 n.stops, .slice n_tA n.tracks.length n_tc, .slice n_sA n.shops.length n_sc] 25)).alloc (.cells #[.int .i64 n.stops, .slice m_tA n.tracks.length m_tc, .slice m_sA n.shops.length m_sc] 25)) = wt at *
  go_wp2_with fail
  refine (equal_same _ _ _ _ _ _ (by rw [HS.out]; exact HN.out.shops) (by rw [HS.out]; exact HM.out.shops) ls).mono ?_
  rintro e w1 ⟨rfl, hb⟩
  rw [HS.out] at hb
  have HB1 := Lib.hid hb
  have HSz1 : Hid (w.heap.size + 2 ≤ w1.heap.size) := HS.out ▸ hb.size
  obtain ⟨⟨z0, z1, z2⟩, x0, x1, x2⟩ := HKP.out _ hb
  clear hb
  go_wp2_with fail
  go_loopw [5, 6] (fun sv iv wr => ∃ k : Nat, k ≤ n.tracks.length ∧ sv = .bool true ∧ iv = .int .i64 k ∧ Hid (Below (w.heap.size + 2) wt wr)) (fun _ i _ => n.tracks.length - (intOf i).toNat)
  case atStart => exact ⟨0, by omega, rfl, rfl, HB1.out⟩
  case round =>
    obtain ⟨k, hk, rfl, rfl, hB⟩ := hrel
    obtain ⟨⟨z0, z1, z2⟩, x0, x1, x2⟩ := HKP.out _ hB.out
    by_cases hkl : k < n.tracks.length
    · have hkk : (k : Int) < (n.tracks.length : Int) := by omega
      obtain ⟨bt, ot, hAt, hbt, hct⟩ := HN.out.tracks k n.tracks[k] (List.getElem?_eq_getElem hkl)
      obtain ⟨bu, ou, hAu, hbu, hcu⟩ := HM.out.tracks k n.tracks[k] (List.getElem?_eq_getElem hkl)
      subst hAt
      subst hAu
      obtain ⟨c0, c1, c2, c3, c4, c5, c6, c7, c8⟩ := trk_cells (w := wr) (b := bt) (o := ot + k * 9) (fun j v hv => (hB.out.cell (p := ⟨bt, ot + k * 9 + j, none⟩) hbt).trans (hct j v hv))
      obtain ⟨d0, d1, d2, d3, d4, d5, d6, d7, d8⟩ := trk_cells (w := wr) (b := bu) (o := ou + k * 9) (fun j v hv => (hB.out.cell (p := ⟨bu, ou + k * 9 + j, none⟩) hbu).trans (hcu j v hv))
      obtain ⟨t, ht⟩ : ∃ t, n.tracks[k] = t := ⟨_, rfl⟩
      rw [ht] at c0 c1 c2 c3 c4 c5 c6 c7 c8 d0 d1 d2 d3 d4 d5 d6 d7 d8
      clear hct hcu ht hbt hbu
      go_wp2_with fail
      go_quiet (fail)
      go_wp2_with fail
      exact ⟨⟨k + 1, by omega, rfl, by go_num, below_same hB.out _⟩, by simp [intOf]; omega⟩
    · obtain rfl : k = n.tracks.length := by omega
      have HBR := Lib.hid (HB.out.trans (hB.out.mono (by omega)))
      clear hB
      go_wp2_with fail
      go_ret
      exact ⟨rfl, HBR.out⟩
end Go.Proofs.YtpbjpochjagicaaGreat
