/- Walks: the reference's First. -/
import Derived.Test.YtpbjpochjagicaaW87
import Derived.Test.YtpbjpochjagicaaW88
import Derived.Deep.DeepCutAuto
import Derived.BigQuiet
namespace Go.Proofs.Ytpbjpochjagicaa
open Go.RowKit

theorem asked_zero {n : Pl.Nt} {c : Pl.Cch} {fr g : Int} : Pl.asked n c fr g 0 = Pl.question n c fr g := by
  unfold Pl.asked
  by_cases h : Pl.question n c fr g = 0
  · rw [if_neg (by simpa using h), h]
    obtain ⟨hb, _, _⟩ := question_b h
    have hst := check_stops (both_check hb).1
    have : Pl.out 0 0 (n.stops - 1) = false := by simp [Pl.out]; omega
    rw [this]
    rfl
  · rw [if_pos h]
theorem firstVal_q {n : Pl.Nt} {c : Pl.Cch} {fr g : Int} {way : List Int} (h : Pl.question n c fr g ≠ 0) : firstVal n c fr g way = .tuple #[.int .i64 0, .int .i64 0, .int .i64 (Pl.question n c fr g)] := by
  have : Pl.printed n c fr g way = Pl.question n c fr g := by rw [Pl.printed, if_pos h]
  rw [firstVal, if_neg (by rw [this]; exact h), this]
theorem firstVal_u {n : Pl.Nt} {c : Pl.Cch} {fr g : Int} {way : List Int} (h : Pl.question n c fr g = 0) (hu : Pl.unknownIn n.tracks.length way = true) : firstVal n c fr g way = .tuple #[.int .i64 0, .int .i64 0, .int .i64 3] := by
  have : Pl.printed n c fr g way = 3 := by simp [Pl.printed, h, hu]
  rw [firstVal, if_neg (by rw [this]; decide), this]
theorem firstVal_k {n : Pl.Nt} {c : Pl.Cch} {fr g : Int} {way : List Int} (h : Pl.question n c fr g = 0) (hu : Pl.unknownIn n.tracks.length way = false) :
    firstVal n c fr g way = .tuple #[.int .i64 (Pl.along n c (fr, g) way 0 0).2.1, .int .i64 (Pl.along n c (fr, g) way 0 0).2.2, .int .i64 0] := by
  have : Pl.printed n c fr g way = 0 := by simp [Pl.printed, h, hu]
  rw [firstVal, if_pos this]
theorem known_in {m : Nat} {way : List Int} (hu : Pl.unknownIn m way = false) : ∀ x ∈ way, 0 ≤ x ∧ x < (m : Int) := fun x hx => by
  have := (List.any_eq_false.1 hu) x hx
  simp [Pl.out] at this
  omega

theorem z124_facts {W : World} {P : Nat} (h : W.heap[P]? = some (.cells #[.int .i64 0, .int .i64 0] 124 (0, 0))) : P < W.heap.size ∧ (W.cell? ⟨P, 0, none⟩ = some (.int .i64 0) ∧ W.cell? ⟨P, 1, none⟩ = some (.int .i64 0)) ∧ W.frozen? ⟨P, 0, none⟩ = false ∧ W.frozen? ⟨P, 1, none⟩ = false :=
  ⟨lt_of_block h, ⟨blk_cell h 0, blk_cell h 1⟩, blk_frozen h 0, blk_frozen h 1⟩

set_option maxRecDepth 20000 in
set_option maxHeartbeats 8000000 in
theorem rfirst_any (n : Pl.Nt) (n_tA n_sA : Option Addr) (n_tc n_sc : Nat) (c : Pl.Cch) (c_gA c_bA c_hA : Option Addr) (c_gc c_bc c_hc : Nat) (fr g : Int) (wA : Option Addr) (wc : Nat) (way : List Int) (w : World) (hn : NReads w w.heap.size n n_tA n_sA n_tc n_sc) (hr : CReads w w.heap.size c c_gA c_bA c_hA c_gc c_bc c_hc) (hw : Ints w w.heap.size wA way) (hwl : way.length ≤ 140737488355328) :
    Calls Try.prog 38 #[.agg #[.int .i64 n.stops, .slice n_tA n.tracks.length n_tc, .slice n_sA n.shops.length n_sc], .agg #[.slice c_gA c.gauges.length c_gc, .int .i64 c.size, .int .i64 c.load, .slice c_bA c.brakes.length c_bc, .slice c_hA c.heats.length c_hc, .bool c.hooks], .int .i64 fr, .int .i64 g, .slice wA way.length wc] w fun e w' => e = .returned (firstVal n c fr g way) ∧ Below w.heap.size w w' := by
  have hb2 : ∀ (o1 o2 : Obj), Below w.heap.size w ((w.alloc o1).alloc o2) := fun o1 o2 => ((Below.refl _ _).alloc (Nat.le_refl _) _).alloc (by simp) _
  have Hn := Lib.hid (((hn.below (hb2 (.cells #[.int .i64 n.stops, .slice n_tA n.tracks.length n_tc, .slice n_sA n.shops.length n_sc] 27) (.cells #[.slice c_gA c.gauges.length c_gc, .int .i64 c.size, .int .i64 c.load, .slice c_bA c.brakes.length c_bc, .slice c_hA c.heats.length c_hc, .bool c.hooks] 30)))).more (B' := w.heap.size + 1 + 1) (by omega))
  have Hr := Lib.hid (((hr.below (hb2 (.cells #[.int .i64 n.stops, .slice n_tA n.tracks.length n_tc, .slice n_sA n.shops.length n_sc] 27) (.cells #[.slice c_gA c.gauges.length c_gc, .int .i64 c.size, .int .i64 c.load, .slice c_bA c.brakes.length c_bc, .slice c_hA c.heats.length c_hc, .bool c.hooks] 30)))).more (B' := w.heap.size + 1 + 1) (by omega))
  have Hw := Lib.hid (((hw.below (hb2 (.cells #[.int .i64 n.stops, .slice n_tA n.tracks.length n_tc, .slice n_sA n.shops.length n_sc] 27) (.cells #[.slice c_gA c.gauges.length c_gc, .int .i64 c.size, .int .i64 c.load, .slice c_bA c.brakes.length c_bc, .slice c_hA c.heats.length c_hc, .bool c.hooks] 30)))).more (B' := w.heap.size + 1 + 1) (by omega))
  have hlT := hn.lenT
  have HB2 := Lib.hid hb2; clear hb2 hn hr hw
  have HM0 : Hid (((w.alloc (.cells #[.int .i64 n.stops, .slice n_tA n.tracks.length n_tc, .slice n_sA n.shops.length n_sc] 27)).alloc (.cells #[.slice c_gA c.gauges.length c_gc, .int .i64 c.size, .int .i64 c.load, .slice c_bA c.brakes.length c_bc, .slice c_hA c.heats.length c_hc, .bool c.hooks] 30)).heap[w.heap.size]? = some (.cells #[.int .i64 n.stops, .slice n_tA n.tracks.length n_tc, .slice n_sA n.shops.length n_sc] 27 (0, 0))) := blk_alloc (heap_alloc_new w _) _
  have HM1 : Hid (((w.alloc (.cells #[.int .i64 n.stops, .slice n_tA n.tracks.length n_tc, .slice n_sA n.shops.length n_sc] 27)).alloc (.cells #[.slice c_gA c.gauges.length c_gc, .int .i64 c.size, .int .i64 c.load, .slice c_bA c.brakes.length c_bc, .slice c_hA c.heats.length c_hc, .bool c.hooks] 30)).heap[w.heap.size + 1]? = some (.cells #[.slice c_gA c.gauges.length c_gc, .int .i64 c.size, .int .i64 c.load, .slice c_bA c.brakes.length c_bc, .slice c_hA c.heats.length c_hc, .bool c.hooks] 30 (0, 0))) := by
    have := heap_alloc_new (w.alloc (.cells #[.int .i64 n.stops, .slice n_tA n.tracks.length n_tc, .slice n_sA n.shops.length n_sc] 27)) (.cells #[.slice c_gA c.gauges.length c_gc, .int .i64 c.size, .int .i64 c.load, .slice c_bA c.brakes.length c_bc, .slice c_hA c.heats.length c_hc, .bool c.hooks] 30)
    show _ = _
    simpa using this
  by_cases e1 : Pl.question n c fr g = 0
  · go_enter Try.func38, Try.ntmps38
    go_wp2_with fail
    refine (rasked_any n n_tA n_sA n_tc n_sc c c_gA c_bA c_hA c_gc c_bc c_hc fr g 0 _ (by simpa using Hn.out) (by simpa using Hr.out)).mono ?_
    rintro e w1 ⟨rfl, hb⟩
    rw [asked_zero, e1]
    have m0 := Lib.hid (blk_below HM0.out hb (by simp; omega)); have m1 := Lib.hid (blk_below HM1.out hb (by simp))
    have HKP := Lib.hid (boxes_keep n n_tA n_sA n_tc n_sc c c_gA c_bA c_hA c_gc c_bc c_hc m0.out m1.out)
    have hs1 : w.heap.size + 1 + 1 ≤ w1.heap.size := by have := hb.size; simpa using this
    have HW1 := Lib.hid ((HB2.out (.cells #[.int .i64 n.stops, .slice n_tA n.tracks.length n_tc, .slice n_sA n.shops.length n_sc] 27) (.cells #[.slice c_gA c.gauges.length c_gc, .int .i64 c.size, .int .i64 c.load, .slice c_bA c.brakes.length c_bc, .slice c_hA c.heats.length c_hc, .bool c.hooks] 30)).trans (hb.mono (by simp; omega)))
    have Hn1 := Lib.hid ((Hn.out.below (by simpa using hb)).more hs1)
    have Hr1 := Lib.hid ((Hr.out.below (by simpa using hb)).more hs1)
    have Hw1 := Lib.hid ((Hw.out.below (by simpa using hb)).more hs1)
    clear hb
    go_wp2_with fail
    go_loopw [14] (fun iv wr => ∃ k : Nat, k ≤ way.length ∧ iv = .int .i64 k ∧ Hid (Pl.unknownIn n.tracks.length way = Pl.unknownIn n.tracks.length (way.drop k)) ∧ Hid (Below w1.heap.size w1 wr)) (fun i _ => way.length - (intOf i).toNat)
    case atStart => exact ⟨0, Nat.zero_le _, rfl, rfl, Below.refl _ _⟩
    case round =>
      obtain ⟨k, hk, rfl, hRk, hB⟩ := hrel
      obtain ⟨⟨z0, z1, z2⟩, x0, x1, x2, x3, x4, x5⟩ := HKP.out wr hB.out
      by_cases hlt : k < way.length
      · obtain ⟨b, off, rfl, hbw, hck⟩ := Hw1.out.below hB.out k way[k] (List.getElem?_eq_getElem hlt)
        have hkl : (k : Int) < (way.length : Int) := by omega
        have hst := unknown_drop (m := n.tracks.length) hlt
        cases ho : Pl.out way[k] 0 ((n.tracks.length : Int) - 1)
        · have hN : Hid (Pl.unknownIn n.tracks.length way = Pl.unknownIn n.tracks.length (way.drop (k + 1))) := by show _ = _; rw [hRk.out, hst, ho]; rfl
          clear hst hRk
          go_wp2_with fail
          go_quiet (first | (go_at_call 84; with_reducible refine quiet_left (among_any _ _ _ _)))
          go_wp2_with fail
          go_roundw
          case rel => exact ⟨k + 1, by omega, by go_num, hN, below_same hB.out _⟩
          case measure => simp [intOf]; omega
        · have hN : Pl.unknownIn n.tracks.length way = true := by rw [hRk.out, hst, ho]; rfl
          have hV := Lib.hid (firstVal_u e1 hN)
          have HW := Lib.hid (HW1.out.trans (hB.out.mono HW1.out.size))
          clear hst hRk hN e1
          go_wp2_with fail
          go_quiet (first | (go_at_call 84; with_reducible refine quiet_left (among_any _ _ _ _)))
          go_wp2_with fail
          go_ret3
          exact ⟨by rw [hV.out]; rfl, below_same HW.out _⟩
      · have hU : Pl.unknownIn n.tracks.length way = false := by rw [hRk.out, List.drop_eq_nil_of_le (by omega)]; rfl
        have hV := Lib.hid (firstVal_k e1 hU)
        have Hway := Lib.hid (known_in hU)
        have HA0 : Hid ((Pl.along n c (fr, g) way 0 0).2 = (Pl.along n c (fr, g) (way.drop 0) ((0 : Nat) : Int) 0).2) := rfl
        clear hRk hU e1 x0 x1 x2 x3 x4 x5 z0 z1 z2
        have hnew := heap_alloc_new wr (.cells #[.int .i64 fr, .int .i64 g] 124)
        have HNW := Lib.hid hnew
        have HB1 : Hid (Below w1.heap.size w1 (wr.alloc (.cells #[.int .i64 fr, .int .i64 g] 124))) := hB.out.alloc hB.out.size _
        have HRS := Lib.hid hB.out.size
        clear hnew hB
        go_wp2_with fail
        generalize wr.alloc (.cells #[.int .i64 fr, .int .i64 g] 124) = w2 at HNW HB1 ⊢
        generalize wr.heap.size = S at HNW HRS ⊢
        go_loopw [16] (fun iv wl => ∃ (j : Nat) (p : Pl.Place) (ch : Int), j ≤ way.length ∧ iv = .int .i64 j ∧ Hid (wl.heap[S]? = some (.cells #[.int .i64 p.1, .int .i64 p.2] 124 (0, 0))) ∧ Hid (Below w1.heap.size w1 wl) ∧ Hid ((Pl.along n c (fr, g) way 0 0).2 = (Pl.along n c p (way.drop j) j ch).2)) (fun i _ => way.length - (intOf i).toNat)
        case atStart => exact ⟨0, (fr, g), 0, Nat.zero_le _, rfl, HNW.out, HB1.out, HA0.out⟩
        case round =>
          obtain ⟨j, ⟨ps, pg⟩, ch, hj, rfl, hSb, hB, hA⟩ := hrel
          clear HNW HB1 HA0
          obtain ⟨wl, rfl⟩ : ∃ wl, wl = wr := ⟨_, rfl⟩
          by_cases hlj : j < way.length
          · obtain ⟨b, off, hwa, hbw, hck⟩ := Hw1.out.below hB.out j way[j] (List.getElem?_eq_getElem hlj)
            subst hwa
            have hjl : (j : Int) < (way.length : Int) := by omega
            have hx := Hway.out _ (List.getElem_mem hlj)
            have hst := along_step (n := n) (c := c) (p := (ps, pg)) (i := j) (ch := ch) hlj
            generalize way[j] = x at hck hx hst
            obtain ⟨m, rfl⟩ : ∃ m : Nat, x = m := ⟨x.toNat, by omega⟩
            rw [Int.toNat_natCast] at hst
            have hm : m < n.tracks.length := by omega
            have hrun := fun W h1 h2 h3 => rrun_any n n_tA n_sA n_tc n_sc c c_gA c_bA c_hA c_gc c_bc c_hc none [] 0 (ps, pg) m hm W h1 h2 h3 (by simp)
            have hSl := lt_of_block hSb.out
            have hbl : b < wl.heap.size := Nat.lt_of_lt_of_le hbw hB.out.size
            have hkp : ∀ W, Below wl.heap.size wl W → ((W.cell? ⟨w.heap.size, 0, none⟩ = some (.int .i64 n.stops) ∧ W.cell? ⟨w.heap.size, 1, none⟩ = some (.slice n_tA n.tracks.length n_tc) ∧ W.cell? ⟨w.heap.size, 2, none⟩ = some (.slice n_sA n.shops.length n_sc)) ∧
                (W.cell? ⟨w.heap.size + 1, 0, none⟩ = some (.slice c_gA c.gauges.length c_gc) ∧ W.cell? ⟨w.heap.size + 1, 1, none⟩ = some (.int .i64 c.size) ∧ W.cell? ⟨w.heap.size + 1, 2, none⟩ = some (.int .i64 c.load) ∧ W.cell? ⟨w.heap.size + 1, 3, none⟩ = some (.slice c_bA c.brakes.length c_bc) ∧ W.cell? ⟨w.heap.size + 1, 4, none⟩ = some (.slice c_hA c.heats.length c_hc) ∧ W.cell? ⟨w.heap.size + 1, 5, none⟩ = some (.bool c.hooks))) ∧
                ((W.cell? ⟨S, 0, none⟩ = some (.int .i64 ps) ∧ W.cell? ⟨S, 1, none⟩ = some (.int .i64 pg)) ∧ W.cell? ⟨b, off + j, none⟩ = some (.int .i64 m)) := fun W hW => by
              have hsb := blk_below hSb.out hW hSl
              exact ⟨HKP.out W (hB.out.trans (hW.mono hB.out.size)), ⟨blk_cell hsb 0, blk_cell hsb 1⟩, (hW.cell (p := ⟨b, off + j, none⟩) hbl).trans hck⟩
            have HKL := Lib.hid hkp
            have HRUN := Lib.hid hrun
            have HST := Lib.hid hst
            have HSB := Lib.hid hSb.out
            clear hkp hrun hst hck hbw
            generalize hq : rrunOf (ps, pg) (Pl.run n c [] (ps, pg) m) = q at HRUN
            have HQ := Lib.hid hq
            clear hq
            obtain ⟨⟨qs, qg⟩, qb⟩ := q
            simp only [rrunVal] at HRUN
            have HNR : Hid (∀ W, Below wl.heap.size wl W → NReads W W.heap.size n n_tA n_sA n_tc n_sc) := fun W hW => (Hn1.out.below (hB.out.trans (hW.mono hB.out.size))).more (Nat.le_trans hB.out.size hW.size)
            have HCR : Hid (∀ W, Below wl.heap.size wl W → CReads W W.heap.size c c_gA c_bA c_hA c_gc c_bc c_hc) := fun W hW => (Hr1.out.below (hB.out.trans (hW.mono hB.out.size))).more (Nat.le_trans hB.out.size hW.size)
            go_wp2_with fail
            go_cut [17, 18] (fun v u wx => ∃ Y : Nat, v = .pointer (some ⟨Y, 0, none⟩) ∧ u = .int .i64 qb ∧ wl.heap.size ≤ Y ∧ Hid (wx.heap[Y]? = some (.cells #[.int .i64 qs, .int .i64 qg] 124 (0, 0))) ∧ Hid (Below wl.heap.size wl wx))
            case first =>
              have hS := HKL.out _ (Below.refl _ _).drew
              go_region_held3 (fun W => ((W.cell? ⟨w.heap.size, 0, none⟩ = some (.int .i64 n.stops) ∧ W.cell? ⟨w.heap.size, 1, none⟩ = some (.slice n_tA n.tracks.length n_tc) ∧ W.cell? ⟨w.heap.size, 2, none⟩ = some (.slice n_sA n.shops.length n_sc)) ∧ (W.cell? ⟨w.heap.size + 1, 0, none⟩ = some (.slice c_gA c.gauges.length c_gc) ∧ W.cell? ⟨w.heap.size + 1, 1, none⟩ = some (.int .i64 c.size) ∧ W.cell? ⟨w.heap.size + 1, 2, none⟩ = some (.int .i64 c.load) ∧ W.cell? ⟨w.heap.size + 1, 3, none⟩ = some (.slice c_bA c.brakes.length c_bc) ∧ W.cell? ⟨w.heap.size + 1, 4, none⟩ = some (.slice c_hA c.heats.length c_hc) ∧ W.cell? ⟨w.heap.size + 1, 5, none⟩ = some (.bool c.hooks))) ∧ ((W.cell? ⟨S, 0, none⟩ = some (.int .i64 ps) ∧ W.cell? ⟨S, 1, none⟩ = some (.int .i64 pg)) ∧ W.cell? ⟨b, off + j, none⟩ = some (.int .i64 m)))
                (first | (with_reducible exact hS) | (refine HKL.out _ ?_; (repeat (first | (with_reducible exact HB3.out) | (with_reducible exact Below.refl _ _) | (with_reducible refine Below.drew ?_) | (with_reducible refine Below.alloc ?_ ?_ _; rotate_left; focus (first | exact Nat.le_refl _ | (simp; done) | exact HB3.out.size | (have hh := HB3.out.size; first | omega | (simp; omega)))) | (with_reducible refine Below.setCell ?_ ?_ _; rotate_left; focus (first | exact Nat.le_refl _ | (simp; done) | exact HB3.out.size | (have hh := HB3.out.size; first | omega | (simp; omega))))))) | (refine HKL.out _ ?_; (repeat (first | (with_reducible exact Below.refl _ _) | (with_reducible refine Below.drew ?_) | (with_reducible refine Below.alloc ?_ ?_ _; rotate_left; focus (first | exact Nat.le_refl _ | (simp; done))) | (with_reducible refine Below.setCell ?_ ?_ _; rotate_left; focus (first | exact Nat.le_refl _ | (simp; done)))))))
                (first
                  | (go_at_call 85; refine (HRUN _ (HNR.out _ (by (repeat (first | (with_reducible exact Below.refl _ _) | (with_reducible refine Below.drew ?_) | (with_reducible refine Below.alloc ?_ ?_ _; rotate_left; focus (first | exact Nat.le_refl _ | (simp; done))) | (with_reducible refine Below.setCell ?_ ?_ _; rotate_left; focus (first | exact Nat.le_refl _ | (simp; done))))))) (HCR.out _ (by (repeat (first | (with_reducible exact Below.refl _ _) | (with_reducible refine Below.drew ?_) | (with_reducible refine Below.alloc ?_ ?_ _; rotate_left; focus (first | exact Nat.le_refl _ | (simp; done))) | (with_reducible refine Below.setCell ?_ ?_ _; rotate_left; focus (first | exact Nat.le_refl _ | (simp; done))))))) (Ints.nil _ _ _)).mono ?_; rintro e w3 ⟨rfl, hb3⟩; have hb4 : Below wl.heap.size wl w3 := Below.trans (by (repeat (first | (with_reducible exact Below.refl _ _) | (with_reducible refine Below.drew ?_) | (with_reducible refine Below.alloc ?_ ?_ _; rotate_left; focus (first | exact Nat.le_refl _ | (simp; done))) | (with_reducible refine Below.setCell ?_ ?_ _; rotate_left; focus (first | exact Nat.le_refl _ | (simp; done)))))) (hb3.mono (by first | exact Nat.le_refl _ | (simp; done))); have HP3 : Hid (∀ (p : Nat) (o : Obj), _ → w3.heap[p]? = some o) := fun p o h => blk_below h hb3 (lt_of_block h); have hS := HKL.out _ hb4; have HB3 := Lib.hid hb4; (try (have tq := z124_facts (HP3.out wl.heap.size (.cells #[.int .i64 0, .int .i64 0] 124 (0, 0)) (by first | exact heap_alloc_new _ _)); obtain ⟨zl, ⟨za0, za1⟩, zb0, zb1⟩ := tq)); clear hb3 hb4))
              all_goals
                go_wp2_with fail
                go_meet
              all_goals first
                | exact ⟨_, rfl, rfl, Nat.le_refl _, blk_set2 (HP3.out _ _ (heap_alloc_new _ _)) _ _, Lib.hid (by (repeat (first | (with_reducible exact HB3.out) | (with_reducible exact Below.refl _ _) | (with_reducible refine Below.drew ?_) | (with_reducible refine Below.alloc ?_ ?_ _; rotate_left; focus (first | exact Nat.le_refl _ | (simp; done) | exact HB3.out.size | (have hh := HB3.out.size; first | omega | (simp; omega)))) | (with_reducible refine Below.setCell ?_ ?_ _; rotate_left; focus (first | exact Nat.le_refl _ | (simp; done) | exact HB3.out.size | (have hh := HB3.out.size; first | omega | (simp; omega)))))))⟩
                | exact ⟨_, rfl, rfl, HB3.out.size, heap_alloc_new _ _, HB3.out.alloc HB3.out.size _⟩
                | exact ⟨_, rfl, rfl, HB3.out.size, blk_set2 (heap_alloc_new _ _) _ _, Lib.hid (by (repeat (first | (with_reducible exact HB3.out) | (with_reducible exact Below.refl _ _) | (with_reducible refine Below.drew ?_) | (with_reducible refine Below.alloc ?_ ?_ _; rotate_left; focus (first | exact Nat.le_refl _ | (simp; done) | exact HB3.out.size | (have hh := HB3.out.size; first | omega | (simp; omega)))) | (with_reducible refine Below.setCell ?_ ?_ _; rotate_left; focus (first | exact Nat.le_refl _ | (simp; done) | exact HB3.out.size | (have hh := HB3.out.size; first | omega | (simp; omega)))))))⟩
            case rest =>
            obtain ⟨Y, rfl, rfl, hY, hYb, hBx⟩ := hcut
            obtain ⟨wx, rfl⟩ : ∃ wx, wx = wc := ⟨_, rfl⟩
            have y0 : wx.cell? ⟨Y, 0, none⟩ = some (.int .i64 qs) := blk_cell hYb.out 0
            have y1 : wx.cell? ⟨Y, 1, none⟩ = some (.int .i64 qg) := blk_cell hYb.out 1
            have hsb := Lib.hid (blk_below HSB.out hBx.out hSl)
            have s0 : wx.cell? ⟨S, 0, none⟩ = some (.int .i64 ps) := blk_cell hsb.out 0
            have s1 : wx.cell? ⟨S, 1, none⟩ = some (.int .i64 pg) := blk_cell hsb.out 1
            have sf0 : wx.frozen? ⟨S, 0, none⟩ = false := blk_frozen hsb.out 0
            have sf1 : wx.frozen? ⟨S, 1, none⟩ = false := blk_frozen hsb.out 1
            have HBN := Lib.hid (hB.out.trans (hBx.out.mono hB.out.size))
            clear HRUN HNR HCR HKL HSB hSb hB hBx
            by_cases hz : (Pl.run n c [] (ps, pg) m).2.2 = 0
            · have hq := (rrun_ok (p := (ps, pg)) hz).symm.trans HQ.out
              simp only [Prod.mk.injEq] at hq
              obtain ⟨hq1, hq2⟩ := hq
              subst hq2
              have hN : Hid ((Pl.along n c (fr, g) way 0 0).2 = (Pl.along n c (qs, qg) (way.drop (j + 1)) ((j + 1 : Nat) : Int) (ch + if (Pl.run n c [] (ps, pg) m).2.1 then 1 else 0)).2) := by
                show _ = _
                rw [hA.out, HST.out, if_neg (by simpa using hz), hq1]
                simp
              clear hA HST HQ hz hq1
              go_wp2_with fail
              go_roundw
              case rel => exact ⟨j + 1, (qs, qg), _, by omega, by go_num, blk_set2 hsb.out _ _, (HBN.out.setCell HRS.out _).setCell HRS.out _, hN⟩
              case measure => simp [intOf]; omega
            · have hq := (rrun_no (p := (ps, pg)) hz).symm.trans HQ.out
              simp only [Prod.mk.injEq] at hq
              obtain ⟨_, hq2⟩ := hq
              subst hq2
              have hN : Hid ((Pl.along n c (fr, g) way 0 0).2 = ((j : Int), (Pl.run n c [] (ps, pg) m).2.2)) := by
                show _ = _
                rw [hA.out, HST.out, if_pos hz]
              have hbz : ((Pl.run n c [] (ps, pg) m).2.2 != 0) = true := by rw [bne_iff_ne]; exact hz
              have HWx := Lib.hid (HW1.out.trans (HBN.out.mono HW1.out.size))
              clear hA HST HQ hz
              generalize (Pl.run n c [] (ps, pg) m).2.2 = bar at *
              go_wp2_with fail
              go_ret3
              exact ⟨by rw [hV.out, hN.out]; rfl, HWx.out⟩
          · have hN : Hid ((Pl.along n c (fr, g) way 0 0).2 = (-1, 0)) := by show _ = _; rw [hA.out, List.drop_eq_nil_of_le (by omega)]; rfl
            have HWx := Lib.hid (HW1.out.trans (hB.out.mono HW1.out.size))
            clear hA hB
            go_wp2_with fail
            go_ret3
            exact ⟨by rw [hV.out, hN.out]; rfl, HWx.out⟩
  · have hV := Lib.hid (firstVal_q (n := n) (c := c) (fr := fr) (g := g) (way := way) e1)
    have hq : (Pl.question n c fr g != 0) = true := by rw [bne_iff_ne]; exact e1
    clear e1
    go_enter Try.func38, Try.ntmps38
    go_wp2_with fail
    refine (rasked_any n n_tA n_sA n_tc n_sc c c_gA c_bA c_hA c_gc c_bc c_hc fr g 0 _ (by simpa using Hn.out) (by simpa using Hr.out)).mono ?_
    rintro e w1 ⟨rfl, hb⟩
    rw [asked_zero]
    have HW := Lib.hid ((HB2.out (.cells #[.int .i64 n.stops, .slice n_tA n.tracks.length n_tc, .slice n_sA n.shops.length n_sc] 27) (.cells #[.slice c_gA c.gauges.length c_gc, .int .i64 c.size, .int .i64 c.load, .slice c_bA c.brakes.length c_bc, .slice c_hA c.heats.length c_hc, .bool c.hooks] 30)).trans (hb.mono (by simp; omega)))
    clear hb
    go_wp2_with fail
    go_ret3
    exact ⟨by rw [hV.out]; rfl, HW.out⟩
end Go.Proofs.Ytpbjpochjagicaa
