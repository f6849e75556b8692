/- Walks: LineBarred. -/
import Derived.Test.YtpbjpochjagicaaW41
import Derived.Test.YtpbjpochjagicaaLb
import Derived.Test.YtpbjpochjagicaaW34
import Derived.BigQuiet
namespace Go.Proofs.Ytpbjpochjagicaa
open Go.RowKit

set_option maxRecDepth 20000 in
set_option maxHeartbeats 8000000 in
theorem law5 (A : Option Addr) (cp : Nat) (xs : List Int) (w : World) (hx : Ints w w.heap.size A xs) (hl : xs.length ≤ 9223372036854775807) :
    Calls Try.prog 5 #[.slice A xs.length cp] w fun e w' => e = .returned (.bool true) ∧ Below w.heap.size w w' := by
  go_enter Try.func5, Try.ntmps5
  go_wp2_with fail
  refine (newBag_any A cp xs w hx hl).mono ?_
  rintro e w1 ⟨g, rfl, hgw, hb1, hB1⟩
  have HB1 := Lib.hid hB1
  have hg1 := hb1.lt
  go_wp2_with fail
  refine (netOf_any g 5 7 w1 hb1 (by omega) (by omega) (by omega) (by omega)).mono ?_
  rintro e w2 ⟨n, n_tA, n_sA, n_tc, n_sc, rfl, htr, hsh, hn, k12⟩
  have Htr := Lib.hid htr
  have Hsh := Lib.hid hsh
  have Hn := Lib.hid hn
  have K12 := Lib.hid k12
  have b2 := k12.bag
  clear htr hsh hn k12 hB1 hx
  go_wp2_with fail
  refine (coach_any g w2 b2).mono ?_
  rintro e w3 ⟨c, c_gA, c_bA, c_hA, c_gc, c_bc, c_hc, rfl, hga, hbr, hhe, hc, k23⟩
  have Hga := Lib.hid hga
  have Hbr := Lib.hid hbr
  have Hhe := Lib.hid hhe
  have Hc := Lib.hid hc
  have K23 := Lib.hid k23
  clear hga hbr hhe hc k23
  go_wp2_with fail
  have hNb := blk_alloc (heap_alloc_new w3 (.cells #[.int .i64 n.stops, .slice n_tA n.tracks.length n_tc, .slice n_sA n.shops.length n_sc] 27)) (.cells #[.slice c_gA c.gauges.length c_gc, .int .i64 c.size, .int .i64 c.load, .slice c_bA c.brakes.length c_bc, .slice c_hA c.heats.length c_hc, .bool c.hooks] 30)
  have hCb : ((w3.alloc (.cells #[.int .i64 n.stops, .slice n_tA n.tracks.length n_tc, .slice n_sA n.shops.length n_sc] 27)).alloc (.cells #[.slice c_gA c.gauges.length c_gc, .int .i64 c.size, .int .i64 c.load, .slice c_bA c.brakes.length c_bc, .slice c_hA c.heats.length c_hc, .bool c.hooks] 30)).heap[w3.heap.size + 1]? = some (.cells #[.slice c_gA c.gauges.length c_gc, .int .i64 c.size, .int .i64 c.load, .slice c_bA c.brakes.length c_bc, .slice c_hA c.heats.length c_hc, .bool c.hooks] 30 (0, 0)) := by
    have := heap_alloc_new (w3.alloc (.cells #[.int .i64 n.stops, .slice n_tA n.tracks.length n_tc, .slice n_sA n.shops.length n_sc] 27)) (.cells #[.slice c_gA c.gauges.length c_gc, .int .i64 c.size, .int .i64 c.load, .slice c_bA c.brakes.length c_bc, .slice c_hA c.heats.length c_hc, .bool c.hooks] 30)
    simpa using this
  have hb34 : Below w3.heap.size w3 ((w3.alloc (.cells #[.int .i64 n.stops, .slice n_tA n.tracks.length n_tc, .slice n_sA n.shops.length n_sc] 27)).alloc (.cells #[.slice c_gA c.gauges.length c_gc, .int .i64 c.size, .int .i64 c.load, .slice c_bA c.brakes.length c_bc, .slice c_hA c.heats.length c_hc, .bool c.hooks] 30)) := ((Below.refl _ _).alloc (Nat.le_refl _) _).alloc (by simp) _
  have hD := dealt_of n n_tA n_sA n_tc n_sc c c_gA c_bA c_hA c_gc c_bc c_hc hg1 Htr.out Hsh.out Hn.out (by omega) (by omega) K12.out Hga.out Hbr.out Hhe.out Hc.out K23.out hb34 hNb hCb (Nat.le_refl _) (by omega)
  have hW4 : Below w.heap.size w ((w3.alloc (.cells #[.int .i64 n.stops, .slice n_tA n.tracks.length n_tc, .slice n_sA n.shops.length n_sc] 27)).alloc (.cells #[.slice c_gA c.gauges.length c_gc, .int .i64 c.size, .int .i64 c.load, .slice c_bA c.brakes.length c_bc, .slice c_hA c.heats.length c_hc, .bool c.hooks] 30)) := by
    have hs12 := K12.out.size
    have hs23 := K23.out.size
    have hs1 := HB1.out.size
    exact ((HB1.out.trans (K12.out.below hgw hg1)).trans (K23.out.below hgw (by omega))).trans (hb34.mono (by omega))
  clear Htr Hsh Hn K12 Hga Hbr Hhe Hc K23 hb34 hNb hCb b2 HB1
  generalize hQ : w3.heap.size + 1 = Q at hD ⊢
  generalize (w3.alloc (.cells #[.int .i64 n.stops, .slice n_tA n.tracks.length n_tc, .slice n_sA n.shops.length n_sc] 27)).alloc (.cells #[.slice c_gA c.gauges.length c_gc, .int .i64 c.size, .int .i64 c.load, .slice c_bA c.brakes.length c_bc, .slice c_hA c.heats.length c_hc, .bool c.hooks] 30) = w4 at hD hW4 ⊢
  generalize w3.heap.size = P at hD ⊢
  clear hQ
  have HW4 := Lib.hid hW4
  clear hW4
  obtain ⟨gb, hgA, hgb⟩ := hD.gauges
  subst hgA
  have D0 := Lib.hid hD
  have hst1 := hD.st
  have hst6 := hD.st6
  have hng := hD.ng
  have hlg := hD.lg
  have hP := lt_of_block hD.b4
  have hQ := lt_of_block hD.b5
  have hS : w4.drew.cell? ⟨P, 0, none⟩ = some (.int .i64 n.stops) ∧ w4.drew.cell? ⟨Q, 0, none⟩ = some (.slice (some ⟨gb, 0, none⟩) c.gauges.length c_gc) := ⟨hD.drew.ncells.1, hD.drew.ccells.1⟩
  have HW := Lib.hid (IntWalk.i64_in (n.stops - 1) ⟨by omega, by omega⟩)
  clear hD
  go_region_held3 (fun w' => w'.cell? ⟨P, 0, none⟩ = some (.int .i64 n.stops) ∧ w'.cell? ⟨Q, 0, none⟩ = some (.slice (some ⟨gb, 0, none⟩) c.gauges.length c_gc))
    (first | go_keep | exact hS)
    (first
      | (go_at_call 18; rw [HW.out]; refine (up_any g _ _ D0.out.drew.bag (by omega)).mono ?_; rintro e w5 ⟨fr, rfl, hf0, hf1, hB5⟩; have D5 := Lib.hid (D0.out.drew.bagged hB5); have HB5 := Lib.hid hB5; clear hB5; have hS := And.intro D5.out.ncells.1 D5.out.ccells.1)
      | (go_at_call 19; refine (one_any g gb 0 _ c.gauges _ D5.out.bag D5.out.ga.ints hgb hng (by omega)).mono ?_; rintro e w6 ⟨ga, rfl, hgm, hB6⟩; have D6 := Lib.hid (D5.out.bagged hB6); have HB6 := Lib.hid hB6; clear hB6; have hS := And.intro D6.out.ncells.1 D6.out.ccells.1))
  have HW6 := Lib.hid (HW4.out.trans (((((Kb.refl D0.out.bag).drew.bagged HB5.out).bagged HB6.out)).below hgw D0.out.bag.lt))
  clear HW4 HB5 HB6 hS
  have hnc := D6.out.ncells
  have hcc := D6.out.ccells
  obtain ⟨z0, z1, z2⟩ := hnc
  obtain ⟨x0, x1, x2, x3, x4, x5⟩ := hcc
  go_wp2_with fail
  refine (walkOf_any g n n_tA n_sA n_tc n_sc fr w6 D6.out.bag D6.out.tr.trks D6.out.apart D6.out.t8).mono ?_
  rintro e w7 ⟨wA, wc, way, rfl, hown, hin, hl5, k67⟩
  have D7 := Lib.hid (D6.out.kb k67)
  have HW7 := Lib.hid (HW6.out.trans (k67.below hgw D6.out.bag.lt))
  have Hway := Lib.hid hown.ints
  have Hin := Lib.hid hin
  clear k67 hown hin z0 z1 z2 x0 x1 x2 x3 x4 x5 HW6
  have hnc := D7.out.ncells
  have hcc := D7.out.ccells
  obtain ⟨z0, z1, z2⟩ := hnc
  obtain ⟨x0, x1, x2, x3, x4, x5⟩ := hcc
  go_wp2_with fail
  refine (first_any n n_tA n_sA n_tc n_sc c _ c_bA c_hA c_gc c_bc c_hc fr ga wA wc way w7 D7.out.nreads D7.out.creads Hway.out (by omega)).mono ?_
  rintro e w8 ⟨rfl, hb8⟩
  have hfv : ∃ at_ bar : Int, firstVal n c fr ga way = .tuple #[.int .i64 at_, .int .i64 bar, .int .i64 0] ∧ Hid (Pl.Same n c (at_, bar) way 0 (fr, ga)) ∧ ((at_ = -1 ∧ bar = 0) ∨ (0 ≤ at_ ∧ at_ < way.length ∧ bar ≠ 0)) := by
    refine ⟨_, _, by rw [firstVal, if_pos (D7.out.printed hf0 (by omega) hgm Hin.out)], Pl.Same.start n c way (fr, ga), ?_⟩
    rcases Pl.along_bounds n c way (fr, ga) 0 0 with h | ⟨h4, h5, h6⟩
    · exact .inl h
    · exact .inr ⟨h4, by rw [Int.zero_add] at h5; exact h5, h6⟩
  obtain ⟨at_, bar, hfv, hsame, hbnd⟩ := hfv
  have D8 := Lib.hid (D7.out.below hb8)
  have HW8 := Lib.hid (HW7.out.trans (hb8.mono HW7.out.size))
  have Hway8 := Lib.hid ((Hway.out.below hb8).more hb8.size)
  clear hb8 Hway HW7 z0 z1 z2 x0 x1 x2 x3 x4 x5
  rw [hfv]
  clear hfv
  have h1 : ¬ at_ < -1 := by omega
  have h2 : ¬ (way.length : Int) ≤ at_ := by omega
  have h3 : (decide (at_ < 0) == (bar == 0)) = true := by
    rcases hbnd with ⟨rfl, rfl⟩ | ⟨h4, h5, h6⟩
    · rfl
    · have e1 : decide (at_ < 0) = false := by simp; omega
      have e2 : (bar == 0) = false := by simpa using h6
      rw [e1, e2]; rfl
  clear hl
  go_wp2_with fail
  have hs8 := D8.out.ncells
  go_loopw [6, 7, 12] (fun fv gv iv wr => ∃ (fr ga : Int) (k : Nat), k ≤ way.length ∧ fv = .int .i64 fr ∧ gv = .int .i64 ga ∧ iv = .int .i64 k ∧ Hid (Pl.Same n c (at_, bar) way k (fr, ga)) ∧ Below w8.heap.size w8 wr) (fun _ _ i _ => way.length - (intOf i).toNat)
  case atStart => exact ⟨fr, ga, 0, by omega, rfl, rfl, rfl, hsame, Below.refl _ _⟩
  case round =>
    obtain ⟨fr2, ga2, k, hk, rfl, rfl, rfl, hsm, hbl⟩ := hrel
    clear hsame hs8
    have Dr := Lib.hid (D8.out.below hbl)
    have HWr := Lib.hid (HW8.out.trans (hbl.mono HW8.out.size))
    by_cases hlt : k < way.length
    · have hki : (k : Int) < (way.length : Int) := by omega
      obtain ⟨bw, ow, hwA, hbw, hcw⟩ := Hway8.out k way[k] (List.getElem?_eq_getElem hlt)
      have hrange := Hin.out way[k] (List.getElem_mem hlt)
      obtain ⟨kk, hkk⟩ : ∃ kk : Nat, way[k] = kk := ⟨way[k].toNat, by omega⟩
      rw [hkk] at hcw hrange
      have hkT : kk < n.tracks.length := by omega
      obtain ⟨bt, ot, htA, hbt, hct⟩ := Dr.out.tr.trks kk n.tracks[kk] (List.getElem?_eq_getElem hkT)
      have htk : n.tracks.getD kk default = n.tracks[kk] := by simp [List.getD_eq_getElem?_getD, List.getElem?_eq_getElem hkT]
      obtain ⟨c0, c1, c2, c3, c4, c5, c6, c7, c8⟩ := trk_cells hct
      have hcw' := (hbl.cell (p := ⟨bw, ow + k, none⟩) hbw).trans hcw
      subst hwA
      subst htA
      generalize n.tracks[kk] = t at htk c0 c1 c2 c3 c4 c5 c6 c7 c8
      have Hkk := Lib.hid hkk
      have Htk := Lib.hid htk
      have hki2 : (kk : Int) < (n.tracks.length : Int) := by omega
      have hbw2 : bw < wr.heap.size := by have := hbl.size; omega
      have hnc := Dr.out.ncells
      have hcc := Dr.out.ccells
      obtain ⟨z0, z1, z2⟩ := hnc
      obtain ⟨x0, x1, x2, x3, x4, x5⟩ := hcc
      have hPr := lt_of_block Dr.out.b4
      have hQr := lt_of_block Dr.out.b5
      clear hcw hkk htk hrange hct
      go_wp2_with fail
      go_region
      have hfine := (check_tracks Dr.out.ck).2 t (by rw [← Htk.out, List.getD_eq_getElem?_getD, List.getElem?_eq_getElem hkT]; exact List.getElem_mem hkT)
      obtain ⟨ha0, ha1, hb0', hb1'⟩ : 0 ≤ t.a ∧ t.a ≤ 5 ∧ 0 ≤ t.b ∧ t.b ≤ 5 := by
        have h6 := Dr.out.st6
        have e1 := hfine.a0; have e2 := hfine.a1; have e3 := hfine.b0; have e4 := hfine.b1
        omega
      have hnb := heap_alloc_new wr (.cells #[.int .i64 t.a, .int .i64 t.b, .int .i64 t.km, .int .i64 t.gauge, .int .i64 t.room, .int .i64 t.brake, .int .i64 t.heat, .int .i64 t.load, .bool t.ferry] 47)
      have D11 := (Dr.out.alloc (.cells #[.int .i64 t.a, .int .i64 t.b, .int .i64 t.km, .int .i64 t.gauge, .int .i64 t.room, .int .i64 t.brake, .int .i64 t.heat, .int .i64 t.load, .bool t.ferry] 47)).drew
      have hB11 : Below w8.heap.size w8 (wr.alloc (.cells #[.int .i64 t.a, .int .i64 t.b, .int .i64 t.km, .int .i64 t.gauge, .int .i64 t.room, .int .i64 t.brake, .int .i64 t.heat, .int .i64 t.load, .bool t.ferry] 47)).drew := (hbl.alloc hbl.size _).drew
      have hW11 : Below w.heap.size w (wr.alloc (.cells #[.int .i64 t.a, .int .i64 t.b, .int .i64 t.km, .int .i64 t.gauge, .int .i64 t.room, .int .i64 t.brake, .int .i64 t.heat, .int .i64 t.load, .bool t.ferry] 47)).drew := (HWr.out.alloc HWr.out.size _).drew
      replace hnb : (wr.alloc (.cells #[.int .i64 t.a, .int .i64 t.b, .int .i64 t.km, .int .i64 t.gauge, .int .i64 t.room, .int .i64 t.brake, .int .i64 t.heat, .int .i64 t.load, .bool t.ferry] 47)).drew.heap[wr.heap.size]? = some (.cells #[.int .i64 t.a, .int .i64 t.b, .int .i64 t.km, .int .i64 t.gauge, .int .i64 t.room, .int .i64 t.brake, .int .i64 t.heat, .int .i64 t.load, .bool t.ferry] 47 (0, 0)) := hnb
      generalize (wr.alloc (.cells #[.int .i64 t.a, .int .i64 t.b, .int .i64 t.km, .int .i64 t.gauge, .int .i64 t.room, .int .i64 t.brake, .int .i64 t.heat, .int .i64 t.load, .bool t.ferry] 47)).drew = wl at hnb D11 hB11 hW11 ⊢
      have hbo : barsOf n c kk = (Pl.barred c t, 0) := by
        have ho : Pl.out (kk : Int) 0 ((n.tracks.length : Int) - 1) = false := by simp [Pl.out]; omega
        rw [barsOf, if_neg (by simp [D11.both]), ho]
        simp only [Bool.false_eq_true, if_false, Int.toNat_natCast]
        rw [Htk.out]
      have hcall := bars_any n (some ⟨bt, ot, none⟩) n_sA n_tc n_sc c _ c_bA c_hA c_gc c_bc c_hc (kk : Int) wl.drew D11.drew.nreads D11.drew.creads
      rw [hbo] at hcall
      have Hcall : Hid (Calls Try.prog 33 _ wl.drew (fun e w' => ∃ A cp, e = .returned (.tuple #[.slice A (Pl.barred c t).length cp, .int .i64 0]) ∧ OwnInts w' wl.drew.heap.size A cp (Pl.barred c t) ∧ Below wl.drew.heap.size wl.drew w')) := hcall
      have hwc := (hB11.cell (p := ⟨bw, ow + k, none⟩) hbw).trans ((hbl.cell (p := ⟨bw, ow + k, none⟩) hbw).symm.trans hcw')
      have hkeep : ∀ W, Below wl.heap.size wl W → (W.cell? ⟨P, 0, none⟩ = some (.int .i64 n.stops) ∧ W.cell? ⟨P, 1, none⟩ = some (.slice (some ⟨bt, ot, none⟩) n.tracks.length n_tc) ∧ W.cell? ⟨P, 2, none⟩ = some (.slice n_sA n.shops.length n_sc)) ∧ (W.cell? ⟨Q, 0, none⟩ = some (.slice (some ⟨gb, 0, none⟩) c.gauges.length c_gc) ∧ W.cell? ⟨Q, 1, none⟩ = some (.int .i64 c.size) ∧ W.cell? ⟨Q, 2, none⟩ = some (.int .i64 c.load) ∧
          W.cell? ⟨Q, 3, none⟩ = some (.slice c_bA c.brakes.length c_bc) ∧ W.cell? ⟨Q, 4, none⟩ = some (.slice c_hA c.heats.length c_hc) ∧ W.cell? ⟨Q, 5, none⟩ = some (.bool c.hooks)) ∧ W.cell? ⟨bw, ow + k, none⟩ = some (.int .i64 kk) := fun W hW => by
        refine ⟨(D11.below hW).ncells, (D11.below hW).ccells, (hW.cell (p := ⟨bw, ow + k, none⟩) ?_).trans hwc⟩
        have := hB11.size
        show bw < _
        omega
      have HK := Lib.hid hkeep
      have hS := hkeep _ (Below.refl _ _).drew
      have Hnb := Lib.hid hnb
      have HD11 := Lib.hid D11
      have HB11 := Lib.hid hB11
      have HW11 := Lib.hid hW11
      have Hbl : Hid (Pl.barred c t = Pl.barred c t) := rfl
      generalize hblg : Pl.barred c t = bl at Hcall
      replace Hbl : Hid (Pl.barred c t = bl) := hblg
      have hlTT : (n.tracks.length : Int) ≤ 8 := by have := Dr.out.t8; omega
      have hsh6 := Dr.out.s6
      clear hkeep hcall hbo hblg hnb D11 hB11 hW11 hwc c0 c1 c2 c3 c4 c5 c6 c7 c8 z0 z1 z2 x0 x1 x2 x3 x4 x5 hcw' hbl hfine
      go_wp2_with fail
      go_region_held3 (fun W => (W.cell? ⟨P, 0, none⟩ = some (.int .i64 n.stops) ∧ W.cell? ⟨P, 1, none⟩ = some (.slice (some ⟨bt, ot, none⟩) n.tracks.length n_tc) ∧ W.cell? ⟨P, 2, none⟩ = some (.slice n_sA n.shops.length n_sc)) ∧ (W.cell? ⟨Q, 0, none⟩ = some (.slice (some ⟨gb, 0, none⟩) c.gauges.length c_gc) ∧ W.cell? ⟨Q, 1, none⟩ = some (.int .i64 c.size) ∧ W.cell? ⟨Q, 2, none⟩ = some (.int .i64 c.load) ∧
          W.cell? ⟨Q, 3, none⟩ = some (.slice c_bA c.brakes.length c_bc) ∧ W.cell? ⟨Q, 4, none⟩ = some (.slice c_hA c.heats.length c_hc) ∧ W.cell? ⟨Q, 5, none⟩ = some (.bool c.hooks)) ∧ W.cell? ⟨bw, ow + k, none⟩ = some (.int .i64 kk))
        (first | go_keep | exact hS)
        (first | (go_at_call 33; refine Hcall.out.mono ?_; rintro e w13 ⟨bA, bcap, rfl, hown, hb12⟩; have hb13 := ((Below.refl wl.heap.size wl).drew).trans hb12; have hS := HK.out _ hb13))
      have D13 := Lib.hid (HD11.out.below hb13)
      have HBL := Lib.hid (HB11.out.trans (hb13.mono HB11.out.size))
      have HW13 := Lib.hid (HW11.out.trans (hb13.mono HW11.out.size))
      have hX := (hb13.block wr.heap.size (lt_of_block Hnb.out)).trans Hnb.out
      have Hown := Lib.hid hown
      have e0 : w13.cell? ⟨wr.heap.size, 0, none⟩ = some (.int .i64 t.a) := blk_cell hX 0
      have e1 : w13.cell? ⟨wr.heap.size, 1, none⟩ = some (.int .i64 t.b) := blk_cell hX 1
      have e3 : w13.cell? ⟨wr.heap.size, 3, none⟩ = some (.int .i64 t.gauge) := blk_cell hX 3
      have hnc := D13.out.ncells
      obtain ⟨z0, z1, z2⟩ := hnc
      clear hown hb12 hb13 hS HK Hcall Hnb HD11 HB11 HW11 hX hPr hQr hki2 hbt hbw2 hkT D8 HW8 Hway8
      obtain ⟨ta, tb, tkm, tg, tro, tbr, the, tld, tfe⟩ := t
      simp only at e0 e1 e3 ha0 ha1 hb0' hb1'
      by_cases hfa : fr2 = ta
      · subst hfa
        have HF : Hid (¬ (fr2 ≠ fr2 ∧ fr2 ≠ tb)) := fun h => h.1 rfl
        rcases hbl : bl with _ | ⟨b0, bl2⟩
        · have hbl0 : Pl.barred c ⟨fr2, tb, tkm, tg, tro, tbr, the, tld, tfe⟩ = [] := Hbl.out.trans hbl
          subst hbl
          by_cases hgg : ga2 = tg
          · have hdue : Hid (Pl.due n c fr2 ga2 ⟨fr2, tb, tkm, tg, tro, tbr, the, tld, tfe⟩ = 0) := by show _ = _; rw [Pl.due, if_neg HF.out, hbl0]; simp [hgg]
            have hnx := Lib.hid (hsm.out.next hlt Hkk.out Htk.out hdue.out)
            subst hgg
            clear hbl0 hdue
            clear hsm
            go_wp2_with fail
            go_quiet (fail)
            go_wp2_with fail
            go_roundw
            · exact ⟨_, _, k + 1, by omega, rfl, rfl, by go_num, (by first | exact hnx | (have h := hnx.out; simp only [Int.add_sub_cancel] at h; exact h)), below_drewN HBL.out _⟩
            · simp [intOf]; omega
          · have hgq : (ga2 == tg) = false := by rw [beq_eq_false_iff_ne]; exact hgg
            by_cases hsh : fr2 ∈ n.shops
            · have hix : 0 ≤ idx n.shops fr2 := (idx_ge _ _).2 hsh
              have hdue : Hid (Pl.due n c fr2 ga2 ⟨fr2, tb, tkm, tg, tro, tbr, the, tld, tfe⟩ = 0) := by show _ = _; rw [Pl.due, if_neg HF.out, hbl0]; simp [hsh]
              clear hbl0 hsh
              go_wp2_with fail
              refine (seat_any n_sA n_sc n.shops fr2 w13.heap.size w13 D13.out.sh.ints (by omega)).mono ?_
              rintro e w13b ⟨rfl, rfl⟩
              have hnx := Lib.hid (hsm.out.next hlt Hkk.out Htk.out hdue.out)
              clear hsm
              go_wp2_with fail
              go_quiet (fail)
              go_wp2_with fail
              go_roundw
              · exact ⟨_, _, k + 1, by omega, rfl, rfl, by go_num, (by first | exact hnx | (have h := hnx.out; simp only [Int.add_sub_cancel] at h; exact h)), below_drewN HBL.out _⟩
              · simp [intOf]; omega
            · have hix : idx n.shops fr2 < 0 := (idx_lt _ _).2 hsh
              have hdue : Hid (Pl.due n c fr2 ga2 ⟨fr2, tb, tkm, tg, tro, tbr, the, tld, tfe⟩ = 8) := by show _ = _; rw [Pl.due, if_neg HF.out, hbl0]; simp [hsh, hgg]
              clear hbl0 hsh
              go_wp2_with fail
              refine (seat_any n_sA n_sc n.shops fr2 w13.heap.size w13 D13.out.sh.ints (by omega)).mono ?_
              rintro e w13b ⟨rfl, rfl⟩
              have hst := hsm.out.stop hlt Hkk.out Htk.out (by rw [hdue.out]; decide)
              rw [hdue.out] at hst
              simp only at hst
              obtain ⟨hat, hba⟩ := hst
              subst hat hba
              clear hsm hbnd h1 h2 h3
              go_wp2_with (go_at_call 25; refine (rolling_any _).mono ?_; rintro e w14 ⟨rfl, hb14⟩)
              go_ret
              exact ⟨rfl, HW13.out.trans (hb14.mono HW13.out.size)⟩
        · have hbl0 : Pl.barred c ⟨fr2, tb, tkm, tg, tro, tbr, the, tld, tfe⟩ = b0 :: bl2 := Hbl.out.trans hbl
          subst hbl
          have hb0 := (Pl.barred_ne c ⟨fr2, tb, tkm, tg, tro, tbr, the, tld, tfe⟩ b0 (by rw [hbl0]; simp)).1
          have hdue : Hid (Pl.due n c fr2 ga2 ⟨fr2, tb, tkm, tg, tro, tbr, the, tld, tfe⟩ = b0) := by show _ = _; rw [Pl.due, if_neg HF.out, hbl0]
          obtain ⟨bb, ob, hbA, hbb, hcb⟩ := Hown.out.ints 0 b0 rfl
          subst hbA
          have hb0q : (b0 == 0) = false := by rw [beq_eq_false_iff_ne]; exact hb0
          have hlb : (0 : Int) < ((b0 :: bl2).length : Int) := by simp
          rw [Nat.add_zero] at hcb
          clear hbl0
          have hst := hsm.out.stop hlt Hkk.out Htk.out (by rw [hdue.out]; exact hb0)
          rw [hdue.out] at hst
          simp only at hst
          obtain ⟨hat, hba⟩ := hst
          subst hat hba
          clear hsm hbnd h1 h2 h3
          go_wp2_with (go_at_call 25; refine (rolling_any _).mono ?_; rintro e w14 ⟨rfl, hb14⟩)
          go_ret
          exact ⟨rfl, HW13.out.trans (hb14.mono HW13.out.size)⟩
      · have hfq : (fr2 == ta) = false := by rw [beq_eq_false_iff_ne]; exact hfa
        by_cases hfb : fr2 = tb
        · subst hfb
          have HF : Hid (¬ (fr2 ≠ ta ∧ fr2 ≠ fr2)) := fun h => h.2 rfl
          rcases hbl : bl with _ | ⟨b0, bl2⟩
          · have hbl0 : Pl.barred c ⟨ta, fr2, tkm, tg, tro, tbr, the, tld, tfe⟩ = [] := Hbl.out.trans hbl
            subst hbl
            by_cases hgg : ga2 = tg
            · have hdue : Hid (Pl.due n c fr2 ga2 ⟨ta, fr2, tkm, tg, tro, tbr, the, tld, tfe⟩ = 0) := by show _ = _; rw [Pl.due, if_neg HF.out, hbl0]; simp [hgg]
              have hnx := Lib.hid (hsm.out.next hlt Hkk.out Htk.out hdue.out)
              subst hgg
              clear hbl0 hdue
              clear hsm
              go_wp2_with fail
              go_quiet (fail)
              go_wp2_with fail
              go_roundw
              · exact ⟨_, _, k + 1, by omega, rfl, rfl, by go_num, (by first | exact hnx | (have h := hnx.out; simp only [Int.add_sub_cancel] at h; exact h)), below_drewN HBL.out _⟩
              · simp [intOf]; omega
            · have hgq : (ga2 == tg) = false := by rw [beq_eq_false_iff_ne]; exact hgg
              by_cases hsh : fr2 ∈ n.shops
              · have hix : 0 ≤ idx n.shops fr2 := (idx_ge _ _).2 hsh
                have hdue : Hid (Pl.due n c fr2 ga2 ⟨ta, fr2, tkm, tg, tro, tbr, the, tld, tfe⟩ = 0) := by show _ = _; rw [Pl.due, if_neg HF.out, hbl0]; simp [hsh]
                clear hbl0 hsh
                go_wp2_with fail
                refine (seat_any n_sA n_sc n.shops fr2 w13.heap.size w13 D13.out.sh.ints (by omega)).mono ?_
                rintro e w13b ⟨rfl, rfl⟩
                have hnx := Lib.hid (hsm.out.next hlt Hkk.out Htk.out hdue.out)
                clear hsm
                go_wp2_with fail
                go_quiet (fail)
                go_wp2_with fail
                go_roundw
                · exact ⟨_, _, k + 1, by omega, rfl, rfl, by go_num, (by first | exact hnx | (have h := hnx.out; simp only [Int.add_sub_cancel] at h; exact h)), below_drewN HBL.out _⟩
                · simp [intOf]; omega
              · have hix : idx n.shops fr2 < 0 := (idx_lt _ _).2 hsh
                have hdue : Hid (Pl.due n c fr2 ga2 ⟨ta, fr2, tkm, tg, tro, tbr, the, tld, tfe⟩ = 8) := by show _ = _; rw [Pl.due, if_neg HF.out, hbl0]; simp [hsh, hgg]
                clear hbl0 hsh
                go_wp2_with fail
                refine (seat_any n_sA n_sc n.shops fr2 w13.heap.size w13 D13.out.sh.ints (by omega)).mono ?_
                rintro e w13b ⟨rfl, rfl⟩
                have hst := hsm.out.stop hlt Hkk.out Htk.out (by rw [hdue.out]; decide)
                rw [hdue.out] at hst
                simp only at hst
                obtain ⟨hat, hba⟩ := hst
                subst hat hba
                clear hsm hbnd h1 h2 h3
                go_wp2_with (go_at_call 25; refine (rolling_any _).mono ?_; rintro e w14 ⟨rfl, hb14⟩)
                go_ret
                exact ⟨rfl, HW13.out.trans (hb14.mono HW13.out.size)⟩
          · have hbl0 : Pl.barred c ⟨ta, fr2, tkm, tg, tro, tbr, the, tld, tfe⟩ = b0 :: bl2 := Hbl.out.trans hbl
            subst hbl
            have hb0 := (Pl.barred_ne c ⟨ta, fr2, tkm, tg, tro, tbr, the, tld, tfe⟩ b0 (by rw [hbl0]; simp)).1
            have hdue : Hid (Pl.due n c fr2 ga2 ⟨ta, fr2, tkm, tg, tro, tbr, the, tld, tfe⟩ = b0) := by show _ = _; rw [Pl.due, if_neg HF.out, hbl0]
            obtain ⟨bb, ob, hbA, hbb, hcb⟩ := Hown.out.ints 0 b0 rfl
            subst hbA
            have hb0q : (b0 == 0) = false := by rw [beq_eq_false_iff_ne]; exact hb0
            have hlb : (0 : Int) < ((b0 :: bl2).length : Int) := by simp
            rw [Nat.add_zero] at hcb
            clear hbl0
            have hst := hsm.out.stop hlt Hkk.out Htk.out (by rw [hdue.out]; exact hb0)
            rw [hdue.out] at hst
            simp only at hst
            obtain ⟨hat, hba⟩ := hst
            subst hat hba
            clear hsm hbnd h1 h2 h3
            go_wp2_with (go_at_call 25; refine (rolling_any _).mono ?_; rintro e w14 ⟨rfl, hb14⟩)
            go_ret
            exact ⟨rfl, HW13.out.trans (hb14.mono HW13.out.size)⟩
        · have hfq2 : (fr2 == tb) = false := by rw [beq_eq_false_iff_ne]; exact hfb
          have hdue : Hid (Pl.due n c fr2 ga2 ⟨ta, tb, tkm, tg, tro, tbr, the, tld, tfe⟩ = 7) := by show _ = _; rw [Pl.due, if_pos ⟨hfa, hfb⟩]
          have hst := hsm.out.stop hlt Hkk.out Htk.out (by rw [hdue.out]; decide)
          rw [hdue.out] at hst
          simp only at hst
          obtain ⟨hat, hba⟩ := hst
          subst hat hba
          clear hsm hbnd h1 h2 h3
          go_wp2_with (go_at_call 25; refine (rolling_any _).mono ?_; rintro e w14 ⟨rfl, hb14⟩)
          go_ret
          exact ⟨rfl, HW13.out.trans (hb14.mono HW13.out.size)⟩
    · obtain rfl : k = way.length := by omega
      have hend := hsm.out.end_
      simp only at hend
      subst hend
      go_wp2_with (go_at_call 25; refine (rolling_any _).mono ?_; rintro e w9 ⟨rfl, hb9⟩)
      go_ret
      exact ⟨rfl, HWr.out.trans (hb9.mono HWr.out.size)⟩
end Go.Proofs.Ytpbjpochjagicaa
