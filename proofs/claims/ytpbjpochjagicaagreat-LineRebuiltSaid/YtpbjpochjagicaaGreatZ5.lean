/- Walks: comes, and the reference's Heaviest and Largest (by gen_z5.py). -/
import Derived.Test.YtpbjpochjagicaaGreatZ4
import Derived.Test.YtpbjpochjagicaaGreatW88
import Derived.Test.YtpbjpochjagicaaGreatW46
import Derived.Test.YtpbjpochjagicaaGreatW49
import Derived.Test.YtpbjpochjagicaaGreatZ1
namespace Go.Proofs.YtpbjpochjagicaaGreat.Pl
/-- does a car come to a station, over all lines but one? -/
def comesB (n : Nt) (c : Cch) (reb : List Int) (but : Int) (p : Place) (ds : Int) : Bool := (bfs (stepB n c reb but) n.tracks.length 100 [p] [p]).any fun q => q.1 == ds
theorem comesB_all {n : Nt} {c : Cch} {reb : List Int} {p : Place} {ds : Int} : comesB n c reb (-1) p ds = comes n c reb p ds := by
  unfold comesB comes reached
  rw [stepB_all]
end Go.Proofs.YtpbjpochjagicaaGreat.Pl
namespace Go.Proofs.YtpbjpochjagicaaGreat
open Go.RowKit

theorem at_comesB {n : Pl.Nt} {c : Pl.Cch} {reb : List Int} {but : Int} {p0 : Pl.Place} {L : List (Option Pl.Trip)} {st : Int} (hck : Pl.check n = 0) (h0 : p0 ∈ Pl.spots) (hc : Pl.Cells n (Pl.stepB n c reb but) p0 n.tracks.length Pl.spots L)
    (hs : Pl.Still n (Pl.stepB n c reb but) n.tracks.length Pl.spots L) (s0 : 0 ≤ st) (s5 : st ≤ 5) : (Pl.atOf L st).isSome = Pl.comesB n c reb but p0 st := by
  have hf := fine_spots (c := c) (reb := reb) (but := but) hck h0
  have hU : ∀ x, Pl.Gets (Pl.stepB n c reb but) n.tracks.length p0 x → x ∈ Pl.spots := by
    intro x hx
    induction hx with
    | refl => exact h0
    | step _ hi hz ih => exact hf.close _ ih _ hi hz
  have hb := (Pl.bfs_all (Pl.stepB n c reb but) n.tracks.length p0 Pl.spots hU 100 (by have := Pl.spots_length; omega)).2
  rw [Bool.eq_iff_iff, at_gets hck h0 hc hs s0 s5]
  unfold Pl.comesB
  rw [List.any_eq_true]
  constructor
  · rintro ⟨z, hz, e⟩
    exact ⟨z, (hb z).2 hz, by simpa using e⟩
  · rintro ⟨z, hz, e⟩
    exact ⟨z, (hb z).1 hz, by simpa using e⟩

theorem field100 (a b c d : Value) (w : World) : (Instr.field 100 (.agg #[a, b, c, d]) 0).run Tryz.prog w = .ok a w := by kernel_rfl
set_option maxRecDepth 20000 in
set_option maxHeartbeats 8000000 in
theorem rcomes_any (n : Pl.Nt) (n_tA n_sA : Option Addr) (n_tc n_sc : Nat) (c : Pl.Cch) (c_gA c_bA c_hA : Option Addr) (c_gc c_bc c_hc : Nat) (rA : Option Addr) (reb : List Int) (rc : Nat) (but fr g ds : Int) (w : World) (hn : NReads w w.heap.size n n_tA n_sA n_tc n_sc) (hr : CReads w w.heap.size c c_gA c_bA c_hA c_gc c_bc c_hc) (hreb : Ints w w.heap.size rA reb) (hrl : reb.length ≤ 140737488355328) (hck : Pl.check n = 0) (hp0 : ((fr, g) : Pl.Place) ∈ Pl.spots) (d0 : 0 ≤ ds) (d5 : ds ≤ 5) :
    Calls Tryz.prog 45 #[.agg #[.int .i64 n.stops, .slice n_tA n.tracks.length n_tc, .slice n_sA n.shops.length n_sc], .agg #[.slice c_gA c.gauges.length c_gc, .int .i64 c.size, .int .i64 c.load, .slice c_bA c.brakes.length c_bc, .slice c_hA c.heats.length c_hc, .bool c.hooks], .slice rA reb.length rc, .int .i64 but, .agg #[.int .i64 fr, .int .i64 g], .int .i64 ds] w fun e w' => e = .returned (.bool (Pl.comesB n c reb but (fr, g) ds)) ∧ Below w.heap.size w w' := by
  obtain ⟨w3, hw3⟩ : ∃ w3, w3 = ((w.alloc (.cells #[.int .i64 n.stops, .slice n_tA n.tracks.length n_tc, .slice n_sA n.shops.length n_sc] 25)).alloc (.cells #[.slice c_gA c.gauges.length c_gc, .int .i64 c.size, .int .i64 c.load, .slice c_bA c.brakes.length c_bc, .slice c_hA c.heats.length c_hc, .bool c.hooks] 27)).alloc (.cells #[.int .i64 fr, .int .i64 g] 83) := ⟨_, rfl⟩
  have hb3 : Below w.heap.size w w3 := by rw [hw3]; exact (((Below.refl _ _).alloc (Nat.le_refl _) _).alloc (by simp) _).alloc (by simp; omega) _
  have hbn : w3.heap[w.heap.size]? = some (.cells #[.int .i64 n.stops, .slice n_tA n.tracks.length n_tc, .slice n_sA n.shops.length n_sc] 25 (0, 0)) := by rw [hw3]; exact blk_alloc (blk_alloc (heap_alloc_new _ _) _) _
  have hbc : w3.heap[w.heap.size + 1]? = some (.cells #[.slice c_gA c.gauges.length c_gc, .int .i64 c.size, .int .i64 c.load, .slice c_bA c.brakes.length c_bc, .slice c_hA c.heats.length c_hc, .bool c.hooks] 27 (0, 0)) := by rw [hw3]; exact blk_alloc (by simpa using heap_alloc_new (w.alloc (.cells #[.int .i64 n.stops, .slice n_tA n.tracks.length n_tc, .slice n_sA n.shops.length n_sc] 25)) (.cells #[.slice c_gA c.gauges.length c_gc, .int .i64 c.size, .int .i64 c.load, .slice c_bA c.brakes.length c_bc, .slice c_hA c.heats.length c_hc, .bool c.hooks] 27)) _
  have hbf : w3.heap[w.heap.size + 1 + 1]? = some (.cells #[.int .i64 fr, .int .i64 g] 83 (0, 0)) := by rw [hw3]; simpa using heap_alloc_new ((w.alloc (.cells #[.int .i64 n.stops, .slice n_tA n.tracks.length n_tc, .slice n_sA n.shops.length n_sc] 25)).alloc (.cells #[.slice c_gA c.gauges.length c_gc, .int .i64 c.size, .int .i64 c.load, .slice c_bA c.brakes.length c_bc, .slice c_hA c.heats.length c_hc, .bool c.hooks] 27)) (.cells #[.int .i64 fr, .int .i64 g] 83)
  have htr := Lib.hid (trips_any n n_tA n_sA n_tc n_sc c c_gA c_bA c_hA c_gc c_bc c_hc rA reb rc but fr g w3 ((hn.below hb3).more hb3.size) ((hr.below hb3).more hb3.size) ((hreb.below hb3).more hb3.size) hrl hck hp0)
  have HAT : Hid (∀ L, Pl.Cells n (Pl.stepB n c reb but) (fr, g) n.tracks.length Pl.spots L → Pl.Still n (Pl.stepB n c reb but) n.tracks.length Pl.spots L → (Pl.atOf L ds).isSome = Pl.comesB n c reb but (fr, g) ds) := fun L hc hs => at_comesB hck hp0 hc hs d0 d5
  have HW3 := Lib.hid hw3
  have HB3 := Lib.hid hb3
  have x0 := blk_cell hbn 0
  have x1 := blk_cell hbn 1
  have x2 := blk_cell hbn 2
  have y0 := blk_cell hbc 0
  have y1 := blk_cell hbc 1
  have y2 := blk_cell hbc 2
  have y3 := blk_cell hbc 3
  have y4 := blk_cell hbc 4
  have y5 := blk_cell hbc 5
  have z0 := blk_cell hbf 0
  have z1 := blk_cell hbf 1
  clear hn hr hreb hck hp0 hb3 hbn hbc hbf hw3
  have hfl := field100
  go_enter Tryz.func45, Tryz.ntmps45
  go_upto_region 1 with fail
  rw [← HW3.out]
  go_wp2_with (first
    | (go_at_call 57; refine htr.out.mono ?_; rintro e w5 ⟨ls, rfl, hT, hlen, hwl, hC, hS, hb⟩; have HT5 := Lib.hid hT; have HL5 := Lib.hid hlen; have HW5 := Lib.hid hwl; have HV5 := Lib.hid (HAT.out _ hC hS); have HB5 := Lib.hid hb; clear hT hlen hwl hC hS hb x0 x1 x2 y0 y1 y2 y3 y4 y5 z0 z1 htr HAT)
    | (go_at_call 58; refine (rat_any (w3.heap.size + 3) 24 ls ds w5 HT5.out HL5.out d0 d5 HW5.out).mono ?_; rintro e w6 ⟨x, rfl, hx, -, -, hb6⟩; have HX6 := Lib.hid hx; have HB6 := Lib.hid hb6; clear hx hb6; simp only [tcVal]))
  go_ret
  exact ⟨by rw [← HV5.out, ← HX6.out]; try rfl, (HB3.out.trans (HB5.out.mono HB3.out.size)).trans (HB6.out.mono (Nat.le_trans HB3.out.size HB5.out.size))⟩
theorem spot_of {n : Pl.Nt} {c : Pl.Cch} {fr g ds : Int} (h : Pl.asked n c fr g ds = 0) : ((fr, g) : Pl.Place) ∈ Pl.spots ∧ 0 ≤ ds ∧ ds ≤ 5 := by
  obtain ⟨h1, h2, f0, f1, hg, s0, s1⟩ := asked_good h
  have hs := check_stops h1
  have hgr := (fits_lists h2).1 g hg
  exact ⟨Pl.mem_spots.2 ⟨f0, by show fr ≤ 5; omega, hgr.1, hgr.2⟩, s0, by omega⟩
theorem car_load {w : World} {B : Nat} (c : Pl.Cch) (c_gA c_bA c_hA : Option Addr) (c_gc c_bc c_hc : Nat) (hr : CReads w B c c_gA c_bA c_hA c_gc c_bc c_hc) (x : Int) : CReads w B { c with load := x } c_gA c_bA c_hA c_gc c_bc c_hc := ⟨hr.gauges, hr.brakes, hr.heats, hr.lenG, hr.lenB, hr.lenH⟩
theorem car_size {w : World} {B : Nat} (c : Pl.Cch) (c_gA c_bA c_hA : Option Addr) (c_gc c_bc c_hc : Nat) (hr : CReads w B c c_gA c_bA c_hA c_gc c_bc c_hc) (x : Int) : CReads w B { c with size := x } c_gA c_bA c_hA c_gc c_bc c_hc := ⟨hr.gauges, hr.brakes, hr.heats, hr.lenG, hr.lenB, hr.lenH⟩

set_option maxRecDepth 20000 in
set_option maxHeartbeats 8000000 in
theorem rheaviest_any (n : Pl.Nt) (n_tA n_sA : Option Addr) (n_tc n_sc : Nat) (c : Pl.Cch) (c_gA c_bA c_hA : Option Addr) (c_gc c_bc c_hc : Nat) (fr g ds : Int) (w : World) (hn : NReads w w.heap.size n n_tA n_sA n_tc n_sc) (hr : CReads w w.heap.size c c_gA c_bA c_hA c_gc c_bc c_hc) :
    Calls Tryz.prog 18 #[.agg #[.int .i64 n.stops, .slice n_tA n.tracks.length n_tc, .slice n_sA n.shops.length n_sc], .agg #[.slice c_gA c.gauges.length c_gc, .int .i64 c.size, .int .i64 c.load, .slice c_bA c.brakes.length c_bc, .slice c_hA c.heats.length c_hc, .bool c.hooks], .int .i64 fr, .int .i64 g, .int .i64 ds] w fun e w' => e = .returned (heavyVal n c fr g ds) ∧ Below w.heap.size w w' := by
  obtain ⟨w2, hw2⟩ : ∃ w2, w2 = (w.alloc (.cells #[.int .i64 n.stops, .slice n_tA n.tracks.length n_tc, .slice n_sA n.shops.length n_sc] 25)).alloc (.cells #[.slice c_gA c.gauges.length c_gc, .int .i64 c.size, .int .i64 c.load, .slice c_bA c.brakes.length c_bc, .slice c_hA c.heats.length c_hc, .bool c.hooks] 27) := ⟨_, rfl⟩
  have hb2 : Below w.heap.size w w2 := by rw [hw2]; exact ((Below.refl _ _).alloc (Nat.le_refl _) _).alloc (by simp) _
  have hbn : w2.heap[w.heap.size]? = some (.cells #[.int .i64 n.stops, .slice n_tA n.tracks.length n_tc, .slice n_sA n.shops.length n_sc] 25 (0, 0)) := by rw [hw2]; exact blk_alloc (heap_alloc_new _ _) _
  have hbc : w2.heap[w.heap.size + 1]? = some (.cells #[.slice c_gA c.gauges.length c_gc, .int .i64 c.size, .int .i64 c.load, .slice c_bA c.brakes.length c_bc, .slice c_hA c.heats.length c_hc, .bool c.hooks] 27 (0, 0)) := by rw [hw2]; simpa using heap_alloc_new (w.alloc (.cells #[.int .i64 n.stops, .slice n_tA n.tracks.length n_tc, .slice n_sA n.shops.length n_sc] 25)) (.cells #[.slice c_gA c.gauges.length c_gc, .int .i64 c.size, .int .i64 c.load, .slice c_bA c.brakes.length c_bc, .slice c_hA c.heats.length c_hc, .bool c.hooks] 27)
  have HN := Lib.hid hn
  have HR := Lib.hid hr
  have HW2 := Lib.hid hw2
  have HB2 := Lib.hid hb2
  have HBN := Lib.hid hbn
  have HBC := Lib.hid hbc
  have HAS := Lib.hid (rasked_any n n_tA n_sA n_tc n_sc c c_gA c_bA c_hA c_gc c_bc c_hc fr g ds w2 ((hn.below hb2).more hb2.size) ((hr.below hb2).more hb2.size))
  have x0 := blk_cell hbn 0
  have x1 := blk_cell hbn 1
  have x2 := blk_cell hbn 2
  have y0 := blk_cell hbc 0
  have y1 := blk_cell hbc 1
  have y2 := blk_cell hbc 2
  have y3 := blk_cell hbc 3
  have y4 := blk_cell hbc 4
  have y5 := blk_cell hbc 5
  clear hn hr hb2 hbn hbc hw2
  by_cases hA : Pl.asked n c fr g ds = 0
  · have HV : Hid (heavyVal n c fr g ds = greatVal (heaviest n c fr g ds)) := by
      show _ = _
      rw [heavyVal, if_neg (by simp [hA])]
    obtain ⟨hp0, d0, d5⟩ := spot_of hA
    have hck := (asked_good hA).1
    have HC : Hid (∀ (W : World) (x : Int), Below w.heap.size w W → Calls Tryz.prog 45 #[.agg #[.int .i64 n.stops, .slice n_tA n.tracks.length n_tc, .slice n_sA n.shops.length n_sc], .agg #[.slice c_gA c.gauges.length c_gc, .int .i64 c.size, .int .i64 x, .slice c_bA c.brakes.length c_bc, .slice c_hA c.heats.length c_hc, .bool c.hooks], .slice none ([] : List Int).length 0, .int .i64 (-1), .agg #[.int .i64 fr, .int .i64 g], .int .i64 ds] W fun e w' => e = .returned (.bool (Pl.comes n { c with load := x } [] (fr, g) ds)) ∧ Below W.heap.size W w') := fun W x hW => by
      have h := rcomes_any n n_tA n_sA n_tc n_sc { c with load := x } c_gA c_bA c_hA c_gc c_bc c_hc none [] 0 (-1) fr g ds W ((HN.out.below hW).more hW.size) (car_load c c_gA c_bA c_hA c_gc c_bc c_hc ((HR.out.below hW).more hW.size) x) (Ints.nil _ _ _) (by simp) hck hp0 d0 d5
      rw [Pl.comesB_all] at h
      exact h
    rw [hA] at HAS
    clear hck hp0 d0 d5
    go_enter Tryz.func18, Tryz.ntmps18
    go_upto_region 1 with fail
    rw [← HW2.out]
    go_upto_region 4 with (go_at_call 43; refine HAS.out.mono ?_; rintro e w5 ⟨rfl, hb5⟩; have HB5 := Lib.hid hb5; clear hb5 x0 x1 x2 y0 y1 y2 y3 y4 y5)
    have hbx := blk_below HBC.out HB5.out (lt_of_block HBC.out)
    have v0 := blk_cell hbx 2
    have f0 := blk_frozen hbx 2
    have HX0 : Hid ((w5.setCell ⟨w.heap.size + 1, 2, none⟩ (.int .i64 20)).heap[w.heap.size + 1]? = some (.cells #[.slice c_gA c.gauges.length c_gc, .int .i64 c.size, .int .i64 ((20 : Nat) : Int), .slice c_bA c.brakes.length c_bc, .slice c_hA c.heats.length c_hc, .bool c.hooks] 27 (0, 0))) := by show _ = _; simpa using blk_set (w := w5) hbx (i := 2) (.int .i64 20)
    have HN0 : Hid ((w5.setCell ⟨w.heap.size + 1, 2, none⟩ (.int .i64 20)).heap[w.heap.size]? = some (.cells #[.int .i64 n.stops, .slice n_tA n.tracks.length n_tc, .slice n_sA n.shops.length n_sc] 25 (0, 0))) := (Below.heap_setCell _ _ _ _ (by show w.heap.size ≠ w.heap.size + 1; omega)).trans (blk_below HBN.out HB5.out (lt_of_block HBN.out))
    have HB0 : Hid (Below w.heap.size w (w5.setCell ⟨w.heap.size + 1, 2, none⟩ (.int .i64 20))) := (HB2.out.trans (HB5.out.mono HB2.out.size)).setCell (p := ⟨w.heap.size + 1, 2, none⟩) (by show w.heap.size ≤ w.heap.size + 1; omega) _
    clear hbx
    go_wp2_with fail
    go_loopg [] 20 (fun k wr => k ≤ 20 ∧ Hid (wr.heap[w.heap.size + 1]? = some (.cells #[.slice c_gA c.gauges.length c_gc, .int .i64 c.size, .int .i64 (k : Int), .slice c_bA c.brakes.length c_bc, .slice c_hA c.heats.length c_hc, .bool c.hooks] 27 (0, 0))) ∧ Hid (wr.heap[w.heap.size]? = some (.cells #[.int .i64 n.stops, .slice n_tA n.tracks.length n_tc, .slice n_sA n.shops.length n_sc] 25 (0, 0))) ∧ Hid (heaviest n c fr g ds = Pl.greatest (fun x => Pl.comes n { c with load := x } [] (fr, g) ds) k) ∧ Hid (Below w.heap.size w wr))
    case atStart => exact ⟨Nat.le_refl _, HX0, HN0, rfl, HB0⟩
    case round =>
      obtain ⟨hk, hX, hN, hG, hB⟩ := hrel
      clear HX0 HN0 HB0 HB5 v0 f0
      have x0 := blk_cell hN.out 0
      have x1 := blk_cell hN.out 1
      have x2 := blk_cell hN.out 2
      rcases gk with _ | k
      · have y0 : wr.cell? ⟨w.heap.size + 1, 2, none⟩ = some (.int .i64 0) := blk_cell hX.out 2
        have HE : Hid (heavyVal n c fr g ds = .tuple #[.int .i64 0, .int .i64 11]) := by
          show _ = _
          rw [HV.out, hG.out]
          rfl
        clear hX hN hG
        go_wp2_with fail
        go_ret2
        exact ⟨by rw [HE.out]; try rfl, hB.out⟩
      · have hst : Pl.greatest (fun x => Pl.comes n { c with load := x } [] (fr, g) ds) (k + 1) = if Pl.comes n { c with load := (k : Int) + 1 } [] (fr, g) ds then (k : Int) + 1 else Pl.greatest (fun x => Pl.comes n { c with load := x } [] (fr, g) ds) k := rfl
        have hke : (((k + 1 : Nat) : Int)) = (k : Int) + 1 := by omega
        rw [hke] at hX
        have y0 := blk_cell hX.out 0
        have y1 := blk_cell hX.out 1
        have y2 := blk_cell hX.out 2
        have y3 := blk_cell hX.out 3
        have y4 := blk_cell hX.out 4
        have y5 := blk_cell hX.out 5
        have hki : (k : Int) + 1 > 0 := by omega
        have hk20 : (k : Int) + 1 ≤ 20 := by omega
        have HCW := Lib.hid (HC.out wr ((k : Int) + 1) hB.out)
        cases hcm : Pl.comes n { c with load := (k : Int) + 1 } [] (fr, g) ds
        · have HG2 : Hid (heaviest n c fr g ds = Pl.greatest (fun x => Pl.comes n { c with load := x } [] (fr, g) ds) k) := by
            show _ = _
            rw [hG.out, hst, hcm]
            rfl
          rw [hcm] at HCW
          clear hG hst hcm hke
          go_wp2_with (go_at_call 45; refine HCW.out.mono ?_; rintro e w6 ⟨rfl, hb6⟩; have HB6 := Lib.hid hb6; have hbx6 := blk_below hX.out hb6 (lt_of_block hX.out); have v0 := blk_cell hbx6 2; have f0 := blk_frozen hbx6 2; have HBX6 := Lib.hid hbx6; clear hb6 hbx6 x0 x1 x2 y0 y1 y2 y3 y4 y5)
          go_roundg k
          case measure => omega
          case rel => exact ⟨by omega, Lib.hid (by simpa using blk_set (w := w6) HBX6.out (i := 2) (.int .i64 (k : Int))), (Below.heap_setCell _ _ _ _ (by show w.heap.size ≠ w.heap.size + 1; omega)).trans (blk_below hN.out HB6.out (lt_of_block hN.out)), HG2, (hB.out.trans (HB6.out.mono hB.out.size)).setCell (p := ⟨w.heap.size + 1, 2, none⟩) (by show w.heap.size ≤ w.heap.size + 1; omega) _⟩
        · have HE : Hid (heavyVal n c fr g ds = .tuple #[.int .i64 ((k : Int) + 1), .int .i64 0]) := by
            show _ = _
            rw [HV.out, hG.out, hst, hcm, if_pos rfl, greatVal_pos (by omega)]
          rw [hcm] at HCW
          clear hG hst hcm hke
          go_wp2_with (go_at_call 45; refine HCW.out.mono ?_; rintro e w6 ⟨rfl, hb6⟩; have HB6 := Lib.hid hb6; have hbx6 := blk_below hX.out hb6 (lt_of_block hX.out); have v0 := blk_cell hbx6 2; clear hb6 hbx6 x0 x1 x2 y0 y1 y2 y3 y4 y5)
          go_ret2
          exact ⟨by rw [HE.out]; try rfl, hB.out.trans (HB6.out.mono hB.out.size)⟩
  · have HV : Hid (heavyVal n c fr g ds = .tuple #[.int .i64 0, .int .i64 (Pl.asked n c fr g ds)]) := by
      show _ = _
      rw [heavyVal, if_pos hA]
    generalize Pl.asked n c fr g ds = q at hA HV HAS
    have hq : (q != 0) = true := by rw [bne_iff_ne]; exact hA
    go_enter Tryz.func18, Tryz.ntmps18
    go_upto_region 1 with fail
    rw [← HW2.out]
    go_wp2_with (go_at_call 43; refine HAS.out.mono ?_; rintro e w5 ⟨rfl, hb5⟩; have HB5 := Lib.hid hb5; clear hb5 x0 x1 x2 y0 y1 y2 y3 y4 y5)
    go_ret2
    exact ⟨by rw [HV.out]; try rfl, HB2.out.trans (HB5.out.mono HB2.out.size)⟩

set_option maxRecDepth 20000 in
set_option maxHeartbeats 8000000 in
theorem rlargest_any (n : Pl.Nt) (n_tA n_sA : Option Addr) (n_tc n_sc : Nat) (c : Pl.Cch) (c_gA c_bA c_hA : Option Addr) (c_gc c_bc c_hc : Nat) (fr g ds : Int) (w : World) (hn : NReads w w.heap.size n n_tA n_sA n_tc n_sc) (hr : CReads w w.heap.size c c_gA c_bA c_hA c_gc c_bc c_hc) :
    Calls Tryz.prog 20 #[.agg #[.int .i64 n.stops, .slice n_tA n.tracks.length n_tc, .slice n_sA n.shops.length n_sc], .agg #[.slice c_gA c.gauges.length c_gc, .int .i64 c.size, .int .i64 c.load, .slice c_bA c.brakes.length c_bc, .slice c_hA c.heats.length c_hc, .bool c.hooks], .int .i64 fr, .int .i64 g, .int .i64 ds] w fun e w' => e = .returned (largeVal n c fr g ds) ∧ Below w.heap.size w w' := by
  obtain ⟨w2, hw2⟩ : ∃ w2, w2 = (w.alloc (.cells #[.int .i64 n.stops, .slice n_tA n.tracks.length n_tc, .slice n_sA n.shops.length n_sc] 25)).alloc (.cells #[.slice c_gA c.gauges.length c_gc, .int .i64 c.size, .int .i64 c.load, .slice c_bA c.brakes.length c_bc, .slice c_hA c.heats.length c_hc, .bool c.hooks] 27) := ⟨_, rfl⟩
  have hb2 : Below w.heap.size w w2 := by rw [hw2]; exact ((Below.refl _ _).alloc (Nat.le_refl _) _).alloc (by simp) _
  have hbn : w2.heap[w.heap.size]? = some (.cells #[.int .i64 n.stops, .slice n_tA n.tracks.length n_tc, .slice n_sA n.shops.length n_sc] 25 (0, 0)) := by rw [hw2]; exact blk_alloc (heap_alloc_new _ _) _
  have hbc : w2.heap[w.heap.size + 1]? = some (.cells #[.slice c_gA c.gauges.length c_gc, .int .i64 c.size, .int .i64 c.load, .slice c_bA c.brakes.length c_bc, .slice c_hA c.heats.length c_hc, .bool c.hooks] 27 (0, 0)) := by rw [hw2]; simpa using heap_alloc_new (w.alloc (.cells #[.int .i64 n.stops, .slice n_tA n.tracks.length n_tc, .slice n_sA n.shops.length n_sc] 25)) (.cells #[.slice c_gA c.gauges.length c_gc, .int .i64 c.size, .int .i64 c.load, .slice c_bA c.brakes.length c_bc, .slice c_hA c.heats.length c_hc, .bool c.hooks] 27)
  have HN := Lib.hid hn
  have HR := Lib.hid hr
  have HW2 := Lib.hid hw2
  have HB2 := Lib.hid hb2
  have HBN := Lib.hid hbn
  have HBC := Lib.hid hbc
  have HAS := Lib.hid (rasked_any n n_tA n_sA n_tc n_sc c c_gA c_bA c_hA c_gc c_bc c_hc fr g ds w2 ((hn.below hb2).more hb2.size) ((hr.below hb2).more hb2.size))
  have x0 := blk_cell hbn 0
  have x1 := blk_cell hbn 1
  have x2 := blk_cell hbn 2
  have y0 := blk_cell hbc 0
  have y1 := blk_cell hbc 1
  have y2 := blk_cell hbc 2
  have y3 := blk_cell hbc 3
  have y4 := blk_cell hbc 4
  have y5 := blk_cell hbc 5
  clear hn hr hb2 hbn hbc hw2
  by_cases hA : Pl.asked n c fr g ds = 0
  · have HV : Hid (largeVal n c fr g ds = greatVal (Pl.largest n c fr g ds)) := by
      show _ = _
      rw [largeVal, if_neg (by simp [hA])]
    obtain ⟨hp0, d0, d5⟩ := spot_of hA
    have hck := (asked_good hA).1
    have HC : Hid (∀ (W : World) (x : Int), Below w.heap.size w W → Calls Tryz.prog 45 #[.agg #[.int .i64 n.stops, .slice n_tA n.tracks.length n_tc, .slice n_sA n.shops.length n_sc], .agg #[.slice c_gA c.gauges.length c_gc, .int .i64 x, .int .i64 c.load, .slice c_bA c.brakes.length c_bc, .slice c_hA c.heats.length c_hc, .bool c.hooks], .slice none ([] : List Int).length 0, .int .i64 (-1), .agg #[.int .i64 fr, .int .i64 g], .int .i64 ds] W fun e w' => e = .returned (.bool (Pl.comes n { c with size := x } [] (fr, g) ds)) ∧ Below W.heap.size W w') := fun W x hW => by
      have h := rcomes_any n n_tA n_sA n_tc n_sc { c with size := x } c_gA c_bA c_hA c_gc c_bc c_hc none [] 0 (-1) fr g ds W ((HN.out.below hW).more hW.size) (car_size c c_gA c_bA c_hA c_gc c_bc c_hc ((HR.out.below hW).more hW.size) x) (Ints.nil _ _ _) (by simp) hck hp0 d0 d5
      rw [Pl.comesB_all] at h
      exact h
    rw [hA] at HAS
    clear hck hp0 d0 d5
    go_enter Tryz.func20, Tryz.ntmps20
    go_upto_region 1 with fail
    rw [← HW2.out]
    go_upto_region 4 with (go_at_call 43; refine HAS.out.mono ?_; rintro e w5 ⟨rfl, hb5⟩; have HB5 := Lib.hid hb5; clear hb5 x0 x1 x2 y0 y1 y2 y3 y4 y5)
    have hbx := blk_below HBC.out HB5.out (lt_of_block HBC.out)
    have v0 := blk_cell hbx 1
    have f0 := blk_frozen hbx 1
    have HX0 : Hid ((w5.setCell ⟨w.heap.size + 1, 1, none⟩ (.int .i64 9)).heap[w.heap.size + 1]? = some (.cells #[.slice c_gA c.gauges.length c_gc, .int .i64 ((9 : Nat) : Int), .int .i64 c.load, .slice c_bA c.brakes.length c_bc, .slice c_hA c.heats.length c_hc, .bool c.hooks] 27 (0, 0))) := by show _ = _; simpa using blk_set (w := w5) hbx (i := 1) (.int .i64 9)
    have HN0 : Hid ((w5.setCell ⟨w.heap.size + 1, 1, none⟩ (.int .i64 9)).heap[w.heap.size]? = some (.cells #[.int .i64 n.stops, .slice n_tA n.tracks.length n_tc, .slice n_sA n.shops.length n_sc] 25 (0, 0))) := (Below.heap_setCell _ _ _ _ (by show w.heap.size ≠ w.heap.size + 1; omega)).trans (blk_below HBN.out HB5.out (lt_of_block HBN.out))
    have HB0 : Hid (Below w.heap.size w (w5.setCell ⟨w.heap.size + 1, 1, none⟩ (.int .i64 9))) := (HB2.out.trans (HB5.out.mono HB2.out.size)).setCell (p := ⟨w.heap.size + 1, 1, none⟩) (by show w.heap.size ≤ w.heap.size + 1; omega) _
    clear hbx
    go_wp2_with fail
    go_loopg [] 9 (fun k wr => k ≤ 9 ∧ Hid (wr.heap[w.heap.size + 1]? = some (.cells #[.slice c_gA c.gauges.length c_gc, .int .i64 (k : Int), .int .i64 c.load, .slice c_bA c.brakes.length c_bc, .slice c_hA c.heats.length c_hc, .bool c.hooks] 27 (0, 0))) ∧ Hid (wr.heap[w.heap.size]? = some (.cells #[.int .i64 n.stops, .slice n_tA n.tracks.length n_tc, .slice n_sA n.shops.length n_sc] 25 (0, 0))) ∧ Hid (Pl.largest n c fr g ds = Pl.greatest (fun x => Pl.comes n { c with size := x } [] (fr, g) ds) k) ∧ Hid (Below w.heap.size w wr))
    case atStart => exact ⟨Nat.le_refl _, HX0, HN0, rfl, HB0⟩
    case round =>
      obtain ⟨hk, hX, hN, hG, hB⟩ := hrel
      clear HX0 HN0 HB0 HB5 v0 f0
      have x0 := blk_cell hN.out 0
      have x1 := blk_cell hN.out 1
      have x2 := blk_cell hN.out 2
      rcases gk with _ | k
      · have y0 : wr.cell? ⟨w.heap.size + 1, 1, none⟩ = some (.int .i64 0) := blk_cell hX.out 1
        have HE : Hid (largeVal n c fr g ds = .tuple #[.int .i64 0, .int .i64 11]) := by
          show _ = _
          rw [HV.out, hG.out]
          rfl
        clear hX hN hG
        go_wp2_with fail
        go_ret2
        exact ⟨by rw [HE.out]; try rfl, hB.out⟩
      · have hst : Pl.greatest (fun x => Pl.comes n { c with size := x } [] (fr, g) ds) (k + 1) = if Pl.comes n { c with size := (k : Int) + 1 } [] (fr, g) ds then (k : Int) + 1 else Pl.greatest (fun x => Pl.comes n { c with size := x } [] (fr, g) ds) k := rfl
        have hke : (((k + 1 : Nat) : Int)) = (k : Int) + 1 := by omega
        rw [hke] at hX
        have y0 := blk_cell hX.out 0
        have y1 := blk_cell hX.out 1
        have y2 := blk_cell hX.out 2
        have y3 := blk_cell hX.out 3
        have y4 := blk_cell hX.out 4
        have y5 := blk_cell hX.out 5
        have hki : (k : Int) + 1 > 0 := by omega
        have hk20 : (k : Int) + 1 ≤ 9 := by omega
        have HCW := Lib.hid (HC.out wr ((k : Int) + 1) hB.out)
        cases hcm : Pl.comes n { c with size := (k : Int) + 1 } [] (fr, g) ds
        · have HG2 : Hid (Pl.largest n c fr g ds = Pl.greatest (fun x => Pl.comes n { c with size := x } [] (fr, g) ds) k) := by
            show _ = _
            rw [hG.out, hst, hcm]
            rfl
          rw [hcm] at HCW
          clear hG hst hcm hke
          go_wp2_with (go_at_call 45; refine HCW.out.mono ?_; rintro e w6 ⟨rfl, hb6⟩; have HB6 := Lib.hid hb6; have hbx6 := blk_below hX.out hb6 (lt_of_block hX.out); have v0 := blk_cell hbx6 1; have f0 := blk_frozen hbx6 1; have HBX6 := Lib.hid hbx6; clear hb6 hbx6 x0 x1 x2 y0 y1 y2 y3 y4 y5)
          go_roundg k
          case measure => omega
          case rel => exact ⟨by omega, Lib.hid (by simpa using blk_set (w := w6) HBX6.out (i := 1) (.int .i64 (k : Int))), (Below.heap_setCell _ _ _ _ (by show w.heap.size ≠ w.heap.size + 1; omega)).trans (blk_below hN.out HB6.out (lt_of_block hN.out)), HG2, (hB.out.trans (HB6.out.mono hB.out.size)).setCell (p := ⟨w.heap.size + 1, 1, none⟩) (by show w.heap.size ≤ w.heap.size + 1; omega) _⟩
        · have HE : Hid (largeVal n c fr g ds = .tuple #[.int .i64 ((k : Int) + 1), .int .i64 0]) := by
            show _ = _
            rw [HV.out, hG.out, hst, hcm, if_pos rfl, greatVal_pos (by omega)]
          rw [hcm] at HCW
          clear hG hst hcm hke
          go_wp2_with (go_at_call 45; refine HCW.out.mono ?_; rintro e w6 ⟨rfl, hb6⟩; have HB6 := Lib.hid hb6; have hbx6 := blk_below hX.out hb6 (lt_of_block hX.out); have v0 := blk_cell hbx6 1; clear hb6 hbx6 x0 x1 x2 y0 y1 y2 y3 y4 y5)
          go_ret2
          exact ⟨by rw [HE.out]; try rfl, hB.out.trans (HB6.out.mono hB.out.size)⟩
  · have HV : Hid (largeVal n c fr g ds = .tuple #[.int .i64 0, .int .i64 (Pl.asked n c fr g ds)]) := by
      show _ = _
      rw [largeVal, if_pos hA]
    generalize Pl.asked n c fr g ds = q at hA HV HAS
    have hq : (q != 0) = true := by rw [bne_iff_ne]; exact hA
    go_enter Tryz.func20, Tryz.ntmps20
    go_upto_region 1 with fail
    rw [← HW2.out]
    go_wp2_with (go_at_call 43; refine HAS.out.mono ?_; rintro e w5 ⟨rfl, hb5⟩; have HB5 := Lib.hid hb5; clear hb5 x0 x1 x2 y0 y1 y2 y3 y4 y5)
    go_ret2
    exact ⟨by rw [HV.out]; try rfl, HB2.out.trans (HB5.out.mono HB2.out.size)⟩
end Go.Proofs.YtpbjpochjagicaaGreat
