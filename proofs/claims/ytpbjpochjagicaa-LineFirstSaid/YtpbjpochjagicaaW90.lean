/- Walks: the reference's Changes. -/
import Derived.Test.YtpbjpochjagicaaW89
import Derived.Test.YtpbjpochjagicaaW49
namespace Go.Proofs.Ytpbjpochjagicaa.Pl

/-- how often the gauge of a line is another one than that of the line before. -/
def cntFrom (n : Nt) : Int → List Int → Int
  | _, [] => 0
  | g, k :: l => (if (n.tracks.getD k.toNat default).gauge ≠ g then 1 else 0) + cntFrom n (n.tracks.getD k.toNat default).gauge l
theorem along_cnt {n : Nt} {c : Cch} : ∀ (l : List Int) (p : Place) (i ch : Int), (along n c p l i ch).2.2 = 0 → (along n c p l i ch).1 = ch + cntFrom n p.2 l ∧ (along n c p l i ch).2.1 = -1
  | [], p, i, ch, _ => by simp [along, cntFrom]
  | k :: l, p, i, ch, h => by
    rw [along] at h ⊢
    by_cases hz : (run n c [] p k.toNat).2.2 = 0
    · rw [if_neg (by simpa using hz)] at h ⊢
      obtain ⟨_, _, _, f4, f5⟩ := run_fine hz
      obtain ⟨h1, h2⟩ := along_cnt l _ _ _ h
      refine ⟨?_, h2⟩
      rw [h1, f5, f4, cntFrom]
      simp only [decide_eq_true_eq]
      omega
    · rw [if_pos hz] at h
      exact absurd h hz
theorem along_bar {n : Nt} {c : Cch} : ∀ (l : List Int) (p : Place) (i ch : Int), (along n c p l i ch).2.2 ≠ 0 → i ≤ (along n c p l i ch).2.1
  | [], p, i, ch, h => by simp [along] at h
  | k :: l, p, i, ch, h => by
    rw [along] at h ⊢
    by_cases hz : (run n c [] p k.toNat).2.2 = 0
    · rw [if_neg (by simpa using hz)] at h ⊢
      have := along_bar l _ _ _ h
      omega
    · rw [if_pos hz]
      exact Int.le_refl _
theorem cnt_step {n : Nt} {g : Int} {way : List Int} {k : Nat} (hk : k < way.length) : cntFrom n g (way.drop k) = (if (n.tracks.getD way[k].toNat default).gauge ≠ g then 1 else 0) + cntFrom n (n.tracks.getD way[k].toNat default).gauge (way.drop (k + 1)) := by
  rw [List.drop_eq_getElem_cons hk, cntFrom]
end Go.Proofs.Ytpbjpochjagicaa.Pl
namespace Go.Proofs.Ytpbjpochjagicaa
open Go.RowKit

set_option maxRecDepth 20000 in
set_option maxHeartbeats 8000000 in
theorem rchanges_any (n : Pl.Nt) (n_tA n_sA : Option Addr) (n_tc n_sc : Nat) (c : Pl.Cch) (c_gA c_bA c_hA : Option Addr) (c_gc c_bc c_hc : Nat) (fr g : Int) (wA : Option Addr) (wc : Nat) (way : List Int) (w : World) (hn : NReads w w.heap.size n n_tA n_sA n_tc n_sc) (hr : CReads w w.heap.size c c_gA c_bA c_hA c_gc c_bc c_hc) (hw : Ints w w.heap.size wA way) (hwl : way.length ≤ 140737488355328) :
    Calls Try.prog 40 #[.agg #[.int .i64 n.stops, .slice n_tA n.tracks.length n_tc, .slice n_sA n.shops.length n_sc], .agg #[.slice c_gA c.gauges.length c_gc, .int .i64 c.size, .int .i64 c.load, .slice c_bA c.brakes.length c_bc, .slice c_hA c.heats.length c_hc, .bool c.hooks], .int .i64 fr, .int .i64 g, .slice wA way.length wc] w fun e w' => e = .returned (changesVal n c fr g way) ∧ Below w.heap.size w w' := by
  have hb2 : ∀ (o1 o2 : Obj), Below w.heap.size w ((w.alloc o1).alloc o2) := fun o1 o2 => ((Below.refl _ _).alloc (Nat.le_refl _) _).alloc (by simp) _
  have Hn := Lib.hid (((hn.below (hb2 (.cells #[.int .i64 n.stops, .slice n_tA n.tracks.length n_tc, .slice n_sA n.shops.length n_sc] 27) (.cells #[.slice c_gA c.gauges.length c_gc, .int .i64 c.size, .int .i64 c.load, .slice c_bA c.brakes.length c_bc, .slice c_hA c.heats.length c_hc, .bool c.hooks] 30)))).more (B' := w.heap.size + 1 + 1) (by omega))
  have Hr := Lib.hid (((hr.below (hb2 (.cells #[.int .i64 n.stops, .slice n_tA n.tracks.length n_tc, .slice n_sA n.shops.length n_sc] 27) (.cells #[.slice c_gA c.gauges.length c_gc, .int .i64 c.size, .int .i64 c.load, .slice c_bA c.brakes.length c_bc, .slice c_hA c.heats.length c_hc, .bool c.hooks] 30)))).more (B' := w.heap.size + 1 + 1) (by omega))
  have Hw := Lib.hid (((hw.below (hb2 (.cells #[.int .i64 n.stops, .slice n_tA n.tracks.length n_tc, .slice n_sA n.shops.length n_sc] 27) (.cells #[.slice c_gA c.gauges.length c_gc, .int .i64 c.size, .int .i64 c.load, .slice c_bA c.brakes.length c_bc, .slice c_hA c.heats.length c_hc, .bool c.hooks] 30)))).more (B' := w.heap.size + 1 + 1) (by omega))
  have hlT := hn.lenT
  have HB2 := Lib.hid hb2; clear hb2 hn hr hw
  have HM0 : Hid (((w.alloc (.cells #[.int .i64 n.stops, .slice n_tA n.tracks.length n_tc, .slice n_sA n.shops.length n_sc] 27)).alloc (.cells #[.slice c_gA c.gauges.length c_gc, .int .i64 c.size, .int .i64 c.load, .slice c_bA c.brakes.length c_bc, .slice c_hA c.heats.length c_hc, .bool c.hooks] 30)).heap[w.heap.size]? = some (.cells #[.int .i64 n.stops, .slice n_tA n.tracks.length n_tc, .slice n_sA n.shops.length n_sc] 27 (0, 0))) := blk_alloc (heap_alloc_new w _) _
  by_cases e1 : Pl.printed n c fr g way = 0
  · have hf : firstVal n c fr g way = .tuple #[.int .i64 (Pl.along n c (fr, g) way 0 0).2.1, .int .i64 (Pl.along n c (fr, g) way 0 0).2.2, .int .i64 0] := by rw [firstVal, if_pos e1]
    by_cases hz : (Pl.along n c (fr, g) way 0 0).2.2 = 0
    · obtain ⟨hc1, hc2⟩ := Pl.along_cnt way (fr, g) 0 0 hz
      have hV : Hid (changesVal n c fr g way = .tuple #[.int .i64 (Pl.cntFrom n g way), .int .i64 0]) := by
        show _ = _
        rw [changesVal, if_pos e1, if_pos hz, hc1, Int.zero_add]
      rw [hc2, hz] at hf
      have HF := Lib.hid hf
      have Hway := Lib.hid (printed_ok e1).2
      have HA0 : Hid (Pl.cntFrom n g way = 0 + Pl.cntFrom n g (way.drop 0)) := (Int.zero_add _).symm
      clear hf hc1 hc2 hz e1
      go_enter Try.func40, Try.ntmps40
      go_wp2_with fail
      refine (rfirst_any n n_tA n_sA n_tc n_sc c c_gA c_bA c_hA c_gc c_bc c_hc fr g wA wc way _ (by simpa using Hn.out) (by simpa using Hr.out) (by simpa using Hw.out) hwl).mono ?_
      rintro e w1 ⟨rfl, hb⟩
      rw [HF.out]
      have m0 := Lib.hid (blk_below HM0.out hb (by simp; omega))
      have hs1 : w.heap.size + 1 + 1 ≤ w1.heap.size := by have := hb.size; simpa using this
      have HW1 := Lib.hid ((HB2.out (.cells #[.int .i64 n.stops, .slice n_tA n.tracks.length n_tc, .slice n_sA n.shops.length n_sc] 27) (.cells #[.slice c_gA c.gauges.length c_gc, .int .i64 c.size, .int .i64 c.load, .slice c_bA c.brakes.length c_bc, .slice c_hA c.heats.length c_hc, .bool c.hooks] 30)).trans (hb.mono (by simp; omega)))
      have Hn1 := Lib.hid ((Hn.out.below (by simpa using hb)).more hs1)
      have Hw1 := Lib.hid ((Hw.out.below (by simpa using hb)).more hs1)
      clear hb
      go_wp2_with fail
      go_loopw [3, 15, 16] (fun gv ov iv wr => ∃ (j : Nat) (gg o : Int), j ≤ way.length ∧ gv = .int .i64 gg ∧ ov = .int .i64 o ∧ iv = .int .i64 j ∧ 0 ≤ o ∧ o ≤ j ∧ Hid (Pl.cntFrom n g way = o + Pl.cntFrom n gg (way.drop j)) ∧ Hid (Below w1.heap.size w1 wr)) (fun _ _ i _ => way.length - (intOf i).toNat)
      case atStart => exact ⟨0, g, 0, Nat.zero_le _, rfl, rfl, rfl, by omega, by omega, HA0.out, Below.refl _ _⟩
      case round =>
        obtain ⟨j, gg, o, hj, rfl, rfl, rfl, ho0, ho1, hA, hB⟩ := hrel
        clear HA0
        have z1 : wr.cell? ⟨w.heap.size, 1, none⟩ = some (.slice n_tA n.tracks.length n_tc) := blk_cell (blk_below m0.out hB.out (lt_of_block m0.out)) 1
        by_cases hlj : j < way.length
        · obtain ⟨b, off, hwa, hbw, hck⟩ := Hw1.out.below hB.out j way[j] (List.getElem?_eq_getElem hlj)
          subst hwa
          have hjl : (j : Int) < (way.length : Int) := by omega
          have hx := Hway.out _ (List.getElem_mem hlj)
          have hst := Pl.cnt_step (n := n) (g := gg) hlj
          generalize way[j] = x at hck hx hst
          obtain ⟨m, rfl⟩ : ∃ m : Nat, x = m := ⟨x.toNat, by omega⟩
          rw [Int.toNat_natCast] at hst
          have hm : m < n.tracks.length := by omega
          have hmi : (m : Int) < (n.tracks.length : Int) := by omega
          have e0 : n.tracks.getD m default = n.tracks[m] := by simp [List.getD_eq_getElem?_getD, List.getElem?_eq_getElem hm]
          rw [e0] at hst
          obtain ⟨bt, ot, hAt, hbt, hct⟩ := (Hn1.out.tracks.below hB.out) m n.tracks[m] (List.getElem?_eq_getElem hm)
          subst hAt
          obtain ⟨_, _, _, t3, _⟩ := trk_cells (w := wr) (b := bt) (o := ot + m * 9) (fun i v hv => hct i v hv)
          generalize n.tracks[m].gauge = tg at t3 hst
          have HST := Lib.hid hst
          clear hct hst e0 hbw hbt
          by_cases hgq : tg = gg
          · subst hgq
            have hN : Hid (Pl.cntFrom n g way = o + Pl.cntFrom n tg (way.drop (j + 1))) := by show _ = _; rw [hA.out, HST.out]; simp
            clear HST hA
            go_wp2_with fail
            go_quiet (fail)
            go_wp2_with fail
            go_roundw
            case rel => exact ⟨j + 1, tg, o, by omega, rfl, rfl, by go_num, by omega, by omega, hN, below_same hB.out _⟩
            case measure => simp [intOf]; omega
          · have hN : Hid (Pl.cntFrom n g way = (o + 1) + Pl.cntFrom n tg (way.drop (j + 1))) := by show _ = _; rw [hA.out, HST.out, if_pos hgq]; omega
            have hne : (tg != gg) = true := by rw [bne_iff_ne]; exact hgq
            clear HST hA
            go_wp2_with fail
            go_quiet (fail)
            go_wp2_with fail
            go_roundw
            case rel => exact ⟨j + 1, tg, o + 1, by omega, rfl, by go_num, by go_num, by omega, by omega, hN, below_same hB.out _⟩
            case measure => simp [intOf]; omega
        · have hN : Hid (Pl.cntFrom n g way = o) := by show _ = _; rw [hA.out, List.drop_eq_nil_of_le (by omega)]; simp [Pl.cntFrom]
          have HWx := Lib.hid (HW1.out.trans (hB.out.mono HW1.out.size))
          clear hA hB
          go_wp2_with fail
          go_ret2
          exact ⟨by rw [hV.out, hN.out]; rfl, HWx.out⟩
    · have hV : Hid (changesVal n c fr g way = .tuple #[.int .i64 0, .int .i64 9]) := by show _ = _; rw [changesVal, if_pos e1, if_neg hz]
      have hp := Pl.along_bar way (fr, g) 0 0 hz
      have hpp : decide (0 ≤ (Pl.along n c (fr, g) way 0 0).2.1) = true := decide_eq_true hp
      have HF := Lib.hid hf
      clear hf hz e1
      go_enter Try.func40, Try.ntmps40
      go_wp2_with fail
      refine (rfirst_any n n_tA n_sA n_tc n_sc c c_gA c_bA c_hA c_gc c_bc c_hc fr g wA wc way _ (by simpa using Hn.out) (by simpa using Hr.out) (by simpa using Hw.out) hwl).mono ?_
      rintro e w1 ⟨rfl, hb⟩
      rw [HF.out]
      have HW1 := Lib.hid ((HB2.out (.cells #[.int .i64 n.stops, .slice n_tA n.tracks.length n_tc, .slice n_sA n.shops.length n_sc] 27) (.cells #[.slice c_gA c.gauges.length c_gc, .int .i64 c.size, .int .i64 c.load, .slice c_bA c.brakes.length c_bc, .slice c_hA c.heats.length c_hc, .bool c.hooks] 30)).trans (hb.mono (by simp; omega)))
      clear hb HF
      generalize (Pl.along n c (fr, g) way 0 0).2.1 = pl at hp hpp ⊢
      generalize (Pl.along n c (fr, g) way 0 0).2.2 = br
      go_wp2_with fail
      go_ret2
      exact ⟨by rw [hV.out]; rfl, HW1.out⟩
  · have hf : firstVal n c fr g way = .tuple #[.int .i64 0, .int .i64 0, .int .i64 (Pl.printed n c fr g way)] := by rw [firstVal, if_neg e1]
    have hV : Hid (changesVal n c fr g way = .tuple #[.int .i64 0, .int .i64 (Pl.printed n c fr g way)]) := by show _ = _; rw [changesVal, if_neg e1]
    have hq : (Pl.printed n c fr g way != 0) = true := by rw [bne_iff_ne]; exact e1
    have HF := Lib.hid hf
    clear hf e1
    go_enter Try.func40, Try.ntmps40
    go_wp2_with fail
    refine (rfirst_any n n_tA n_sA n_tc n_sc c c_gA c_bA c_hA c_gc c_bc c_hc fr g wA wc way _ (by simpa using Hn.out) (by simpa using Hr.out) (by simpa using Hw.out) hwl).mono ?_
    rintro e w1 ⟨rfl, hb⟩
    rw [HF.out]
    have HW1 := Lib.hid ((HB2.out (.cells #[.int .i64 n.stops, .slice n_tA n.tracks.length n_tc, .slice n_sA n.shops.length n_sc] 27) (.cells #[.slice c_gA c.gauges.length c_gc, .int .i64 c.size, .int .i64 c.load, .slice c_bA c.brakes.length c_bc, .slice c_hA c.heats.length c_hc, .bool c.hooks] 30)).trans (hb.mono (by simp; omega)))
    clear hb HF
    go_wp2_with fail
    go_ret2
    exact ⟨by rw [hV.out]; rfl, HW1.out⟩
end Go.Proofs.Ytpbjpochjagicaa
