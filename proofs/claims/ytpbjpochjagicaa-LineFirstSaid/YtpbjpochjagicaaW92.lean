/- Walks: LineFirst (by gen_law6.py). -/
import Derived.Test.YtpbjpochjagicaaQa
import Derived.Test.YtpbjpochjagicaaW90
import Derived.Test.YtpbjpochjagicaaWo
namespace Go.Proofs.Ytpbjpochjagicaa
open Go.RowKit

theorem firstVal_form (n : Pl.Nt) (c : Pl.Cch) (fr g : Int) (l : List Int) : ∃ p k e : Int, firstVal n c fr g l = .tuple #[.int .i64 p, .int .i64 k, .int .i64 e] := by
  unfold firstVal
  split
  · exact ⟨_, _, _, rfl⟩
  · exact ⟨_, _, _, rfl⟩
theorem changesVal_form (n : Pl.Nt) (c : Pl.Cch) (fr g : Int) (l : List Int) : ∃ p e : Int, changesVal n c fr g l = .tuple #[.int .i64 p, .int .i64 e] := by
  unfold changesVal
  split
  · split
    · exact ⟨_, _, rfl⟩
    · exact ⟨_, _, rfl⟩
  · exact ⟨_, _, rfl⟩

theorem trks_apart {g B : Nat} {w : World} {A : Option Addr} {ts : List Pl.Trk} (hb : BagAt w g) (ht : Trks w B A ts) (hne : ts ≠ []) : ∀ p, A = some p → p.block ≠ g := fun p hp e => by
  obtain ⟨s, hs⟩ := hb
  cases ts with
  | nil => exact hne rfl
  | cons t ts =>
    obtain ⟨b, off, hA, _, hc⟩ := ht 0 t rfl
    rw [hp] at hA
    injection hA with hA
    subst hA
    simp only at e
    subst e
    have h1 := hc 1 _ rfl
    have h2 := blk_cell hs (off + 0 * 9 + 1)
    rw [h2] at h1
    simp at h1

set_option maxRecDepth 20000 in
set_option maxHeartbeats 40000000 in
theorem law6 (a : Pl.Nt) (a_tA a_sA : Option Addr) (a_tc a_sc : Nat) (z : Pl.Cch) (z_gA z_bA z_hA : Option Addr) (z_gc z_bc z_hc : Nat) (fr0 ga0 : Int) (wA : Option Addr) (wc : Nat) (way : List Int) (A : Option Addr) (cp : Nat) (xs : List Int) (w : World) (hh : largeIn a z = false → NReads w w.heap.size a a_tA a_sA a_tc a_sc ∧ CReads w w.heap.size z z_gA z_bA z_hA z_gc z_bc z_hc)
    (hw : Ints w w.heap.size wA way) (hwl : way.length ≤ 9223372036854775807) (hx : Ints w w.heap.size A xs) (hl : xs.length ≤ 9223372036854775807) :
    Calls Try.prog 6 #[.agg #[.int .i64 a.stops, .slice a_tA a.tracks.length a_tc, .slice a_sA a.shops.length a_sc], .agg #[.slice z_gA z.gauges.length z_gc, .int .i64 z.size, .int .i64 z.load, .slice z_bA z.brakes.length z_bc, .slice z_hA z.heats.length z_hc, .bool z.hooks], .int .i64 fr0, .int .i64 ga0, .slice wA way.length wc, .slice A xs.length cp] w fun e w' => e = .returned (.bool true) ∧ Below w.heap.size w w' := by
  obtain ⟨m0, m1, hb, hs⟩ := two_new w #[.int .i64 a.stops, .slice a_tA a.tracks.length a_tc, .slice a_sA a.shops.length a_sc] #[.slice z_gA z.gauges.length z_gc, .int .i64 z.size, .int .i64 z.load, .slice z_bA z.brakes.length z_bc, .slice z_hA z.heats.length z_hc, .bool z.hooks] 27 30
  have hkp := boxes_keep a a_tA a_sA a_tc a_sc z z_gA z_bA z_hA z_gc z_bc z_hc m0 m1
  rw [hs] at hkp
  have HX := Lib.hid ((hx.below hb).more (B' := w.heap.size + 2) (by omega))
  have HS := Lib.hid hs
  have HB := Lib.hid hb
  have HKP := Lib.hid hkp
  have HWY := Lib.hid hw
  obtain ⟨⟨n0, n1, n2⟩, y0, y1, y2, y3, y4, y5⟩ := hkp _ (by rw [← hs]; exact Below.refl _ _)
  clear hkp m0 m1 hs hx hw
  cases hL : largeIn a z
  · by_cases hW20 : 20 < way.length
    · have hwi : decide ((20 : Int) < (way.length : Int)) = true := decide_eq_true (by omega)
      have hwj : (20 : Int) < (way.length : Int) := by omega
      clear hh hb
      go_enter Try.func6, Try.ntmps6
      go_wp2_with fail
      generalize ((w.alloc (.cells #[.int .i64 a.stops, .slice a_tA a.tracks.length a_tc, .slice a_sA a.shops.length a_sc] 27)).alloc (.cells #[.slice z_gA z.gauges.length z_gc, .int .i64 z.size, .int .i64 z.load, .slice z_bA z.brakes.length z_bc, .slice z_hA z.heats.length z_hc, .bool z.hooks] 30)) = w0 at *
      go_wp2_with fail
      refine (large_any a a_tA a_sA a_tc a_sc z z_gA z_bA z_hA z_gc z_bc z_hc w0).mono ?_
      rintro e w1 ⟨rfl, hb1⟩
      rw [HS.out] at hb1
      rw [hL]
      have HB1 := Lib.hid hb1
      have HSz1 : Hid (w.heap.size + 2 ≤ w1.heap.size) := HS.out ▸ hb1.size
      clear hb1 hL
      go_wp2_with fail
      refine (rolling_any w1).mono ?_
      rintro e w2 ⟨rfl, hb2⟩
      have HB2 := Lib.hid (HB1.out.trans (hb2.mono HSz1.out))
      clear hb2
      go_wp2_with fail
      go_ret
      exact ⟨rfl, HB.out.trans (HB2.out.mono (by omega))⟩
    · have hwi : decide ((20 : Int) < (way.length : Int)) = false := decide_eq_false (by omega)
      have hwj : ¬ (20 : Int) < (way.length : Int) := by omega
      have hw20 : way.length ≤ 20 := by omega
      obtain ⟨ha, hz⟩ := hh hL
      have HA := Lib.hid ((ha.below hb).more (B' := w.heap.size + 2) (by omega))
      have HZ := Lib.hid ((hz.below hb).more (B' := w.heap.size + 2) (by omega))
      have F1 := Lib.hid (few_of hL)
      clear ha hz hh hb
      go_enter Try.func6, Try.ntmps6
      go_wp2_with fail
      generalize ((w.alloc (.cells #[.int .i64 a.stops, .slice a_tA a.tracks.length a_tc, .slice a_sA a.shops.length a_sc] 27)).alloc (.cells #[.slice z_gA z.gauges.length z_gc, .int .i64 z.size, .int .i64 z.load, .slice z_bA z.brakes.length z_bc, .slice z_hA z.heats.length z_hc, .bool z.hooks] 30)) = w0 at *
      go_wp2_with fail
      refine (large_any a a_tA a_sA a_tc a_sc z z_gA z_bA z_hA z_gc z_bc z_hc w0).mono ?_
      rintro e w1 ⟨rfl, hb1⟩
      rw [HS.out] at hb1
      rw [hL]
      have HB1 := Lib.hid hb1
      have HSz1 : Hid (w.heap.size + 2 ≤ w1.heap.size) := HS.out ▸ hb1.size
      clear hb1 hL
      go_wp2_with fail
      refine (newBag_any A cp xs w1 ((HX.out.below HB1.out).more HSz1.out) hl).mono ?_
      rintro e w2 ⟨g, rfl, hgw, hbag, hb2⟩
      have HB2 := Lib.hid (HB1.out.trans (hb2.mono HSz1.out))
      have HSz2 : Hid (w.heap.size + 2 ≤ w2.heap.size) := Nat.le_trans HSz1.out hb2.size
      obtain ⟨⟨n0, n1, n2⟩, y0, y1, y2, y3, y4, y5⟩ := HKP.out _ HB2.out
      clear hb2
      go_wp2_with fail
      refine (made_any a a_tA a_sA a_tc a_sc z z_gA z_bA z_hA z_gc z_bc z_hc fr0 ga0 0 g w2 hbag).mono ?_
      rintro e w3 ⟨B, base, P, Q, n, n_tA, n_sA, n_tc, n_sc, c, c_gA, c_bA, c_hA, c_gc, c_bc, c_hc, fr, ga, ds, rfl, hblk, hD, hK, hbase, hBw, _⟩
      have D3 := Lib.hid hD
      have K3 := Lib.hid hK
      have BLK := Lib.hid hblk
      clear hD hK hblk n0 n1 n2 y0 y1 y2 y3 y4 y5 hwi hwj
      go_wp2_with fail
      have hgB : g < base := D3.out.gB
      have HK3 := Lib.hid ((HB2.out).trans (K3.out.below (Nat.le_trans HSz1.out hgw) hbag.lt))
      have HQ : Hid (Asking g B w3.heap.size base P Q (w.heap.size + 2) (w3.alloc (.cells #[.slice (some ⟨B, 0, none⟩) 5 5, .slice (some ⟨B + 1, 0, none⟩) 5 5, .slice (some ⟨B + 1 + 1, 0, none⟩) 5 5, .slice (some ⟨B + 1 + 1 + 1, 0, none⟩) 5 5, .slice (some ⟨B + 1 + 1 + 1 + 1, 0, none⟩) 5 5] 60)) a a_tA a_sA a_tc a_sc z z_gA z_bA z_hA z_gc z_bc z_hc n n_tA n_sA n_tc n_sc c c_gA c_bA c_hA c_gc c_bc c_hc fr0 ga0 0 fr ga ds) :=
        ⟨heap_alloc_new w3 _, blk_alloc BLK.out.1 _, blk_alloc BLK.out.2.1 _, blk_alloc BLK.out.2.2.1 _, blk_alloc BLK.out.2.2.2.1 _, blk_alloc BLK.out.2.2.2.2 _, D3.out.alloc _, (HA.out.below HK3.out).below ((Below.refl _ _).alloc (Nat.le_trans HSz2.out K3.out.size) _), (HZ.out.below HK3.out).below ((Below.refl _ _).alloc (Nat.le_trans HSz2.out K3.out.size) _), F1.out,
          D3.out.bag.lt, Nat.lt_of_lt_of_le hbag.lt hBw, Nat.le_trans HSz1.out hgw⟩
      have HW4 : Hid (Below w.heap.size w (w3.alloc (.cells #[.slice (some ⟨B, 0, none⟩) 5 5, .slice (some ⟨B + 1, 0, none⟩) 5 5, .slice (some ⟨B + 1 + 1, 0, none⟩) 5 5, .slice (some ⟨B + 1 + 1 + 1, 0, none⟩) 5 5, .slice (some ⟨B + 1 + 1 + 1 + 1, 0, none⟩) 5 5] 60))) := (HB.out.trans (HK3.out.mono (by omega))).alloc (Nat.le_trans (Nat.le_trans (by omega : w.heap.size ≤ w.heap.size + 2) HSz2.out) K3.out.size) _
      generalize w3.alloc (.cells #[.slice (some ⟨B, 0, none⟩) 5 5, .slice (some ⟨B + 1, 0, none⟩) 5 5, .slice (some ⟨B + 1 + 1, 0, none⟩) 5 5, .slice (some ⟨B + 1 + 1 + 1, 0, none⟩) 5 5, .slice (some ⟨B + 1 + 1 + 1 + 1, 0, none⟩) 5 5] 60) = w4 at HQ HW4 ⊢
      generalize w3.heap.size = X at HQ ⊢
      clear BLK D3 K3 HA HZ HX HKP HB2 HB1 HB hbag hgw hbase hBw hgB HK3
      go_wp2_with fail
      go_loopw [15] (fun iv wr => ∃ k : Nat, k ≤ 5 ∧ iv = .int .i64 k ∧ Hid (Asking g B X base P Q (w.heap.size + 2) wr a a_tA a_sA a_tc a_sc z z_gA z_bA z_hA z_gc z_bc z_hc n n_tA n_sA n_tc n_sc c c_gA c_bA c_hA c_gc c_bc c_hc fr0 ga0 0 fr ga ds) ∧ Hid (Below w.heap.size w wr)) (fun i _ => 5 - (intOf i).toNat)
      case atStart => exact ⟨0, by omega, rfl, HQ.out, HW4.out⟩
      case round =>
        obtain ⟨k, hk, rfl, hQ, hW⟩ := hrel
        have q0 := blk_cell hQ.out.ask 0
        clear HQ HW4
        by_cases hk5 : k < 5
        · have hki : (k : Int) < 5 := by omega
          obtain ⟨m, m_tA, m_sA, m_tc, m_sc, d, d_gA, d_bA, d_hA, d_gc, d_bc, d_hc, x1, x2, x3, hkp, hmr, hdr, hfew⟩ := hQ.out.pick k hk5
          have hapart := fun h => trks_apart hQ.out.D.bag (hmr _ (Kb.refl hQ.out.D.bag)).tracks h
          have HKP := Lib.hid hkp
          have HMR := Lib.hid hmr
          have HDR := Lib.hid hdr
          have HFW := Lib.hid hfew
          have HAP := Lib.hid hapart
          have HBG := Lib.hid hQ.out.D.bag
          obtain ⟨⟨q0, q1, q2, q3, q4⟩, ⟨b0, b1, b2⟩, ⟨c0, c1, c2, c3, c4, c5⟩, f0, g0, t0⟩ := hkp _ (Kb.refl HBG.out)
          clear hkp hmr hdr hfew hapart
          go_wp2_with fail
          go_cut [16, 17] (fun v1 v2 wx => ∃ (P2 Q2 : Nat) (e_tA e_sA : Option Addr) (e_tc e_sc : Nat) (f_gA f_bA f_hA : Option Addr) (f_gc f_bc f_hc : Nat), v1 = .pointer (some ⟨P2, 0, none⟩) ∧ v2 = .pointer (some ⟨Q2, 0, none⟩) ∧ Hid (CopyAt g wr wx P2 Q2 m e_tA e_sA e_tc e_sc d f_gA f_bA f_hA f_gc f_bc f_hc))
          case first =>
            have hS := HKP.out _ (Kb.refl HBG.out).drew
            refine wp_region_L (by kernel_rfl) (fun W => ((W.cell? ⟨X, 0, none⟩ = some (.slice (some ⟨B, 0, none⟩) 5 5) ∧ W.cell? ⟨X, 1, none⟩ = some (.slice (some ⟨B + 1, 0, none⟩) 5 5) ∧ W.cell? ⟨X, 2, none⟩ = some (.slice (some ⟨B + 1 + 1, 0, none⟩) 5 5) ∧ W.cell? ⟨X, 3, none⟩ = some (.slice (some ⟨B + 1 + 1 + 1, 0, none⟩) 5 5) ∧ W.cell? ⟨X, 4, none⟩ = some (.slice (some ⟨B + 1 + 1 + 1 + 1, 0, none⟩) 5 5)) ∧ (W.cell? ⟨B, k * 3, none⟩ = some (.int .i64 m.stops) ∧ W.cell? ⟨B, k * 3 + 1, none⟩ = some (.slice m_tA m.tracks.length m_tc) ∧ W.cell? ⟨B, k * 3 + 2, none⟩ = some (.slice m_sA m.shops.length m_sc)) ∧ (W.cell? ⟨B + 1, k * 6, none⟩ = some (.slice d_gA d.gauges.length d_gc) ∧ W.cell? ⟨B + 1, k * 6 + 1, none⟩ = some (.int .i64 d.size) ∧ W.cell? ⟨B + 1, k * 6 + 2, none⟩ = some (.int .i64 d.load) ∧ W.cell? ⟨B + 1, k * 6 + 3, none⟩ = some (.slice d_bA d.brakes.length d_bc) ∧ W.cell? ⟨B + 1, k * 6 + 4, none⟩ = some (.slice d_hA d.heats.length d_hc) ∧ W.cell? ⟨B + 1, k * 6 + 5, none⟩ = some (.bool d.hooks)) ∧ (W.cell? ⟨B + 1 + 1, k, none⟩ = some (.int .i64 x1) ∧ W.cell? ⟨B + 1 + 1 + 1, k, none⟩ = some (.int .i64 x2) ∧ W.cell? ⟨B + 1 + 1 + 1 + 1, k, none⟩ = some (.int .i64 x3)))) [] ?_
            refine wpAnyL_take (i := 0) (v := ?v0) rfl (by kernel_rfl) (by kernel_rfl) (by kernel_rfl) (by kernel_rfl) (by rfl) (fun _ _ _ h => h) hS (Or.inl ⟨by rfl, ?hy0⟩) ?hr0
            case hy0 => (intro w hSw; (try dsimp only at hSw); go_simp; (try rfl))
            simp only [List.getElem_toArray, List.getElem_cons_zero, Act.put, List.setIfInBounds_toArray, List.set_cons_zero, List.set_cons_succ]
            refine wpAnyL_take (i := 1) (v := ?v1) rfl (by kernel_rfl) (by kernel_rfl) (by kernel_rfl) (by kernel_rfl) (by rfl) (fun _ _ _ h => h) hS (Or.inl ⟨by rfl, ?hy1⟩) ?hr1
            case hy1 => (intro w hSw; (try dsimp only at hSw); go_simp; (try rfl))
            simp only [List.getElem_toArray, List.getElem_cons_succ, List.getElem_cons_zero, Act.put, List.setIfInBounds_toArray, List.set_cons_zero, List.set_cons_succ]
            refine wpAnyL_take (i := 2) (v := ?v2) rfl (by kernel_rfl) (by kernel_rfl) (by kernel_rfl) (by kernel_rfl) (by rfl) (fun _ _ _ h => h) hS (Or.inl ⟨by rfl, ?hy2⟩) ?hr2
            case hy2 => (intro w hSw; (try dsimp only at hSw); go_simp; (try rfl))
            simp only [List.getElem_toArray, List.getElem_cons_succ, List.getElem_cons_zero, Act.put, List.setIfInBounds_toArray, List.set_cons_zero, List.set_cons_succ]
            refine wpAnyL_take (i := 3) (v := ?v3) rfl (by kernel_rfl) (by kernel_rfl) (by kernel_rfl) (by kernel_rfl) (by rfl) (fun _ _ _ h => h) hS (Or.inl ⟨by rfl, ?hy3⟩) ?hr3
            case hy3 => (intro w hSw; (try dsimp only at hSw); go_simp; (try rfl))
            simp only [List.getElem_toArray, List.getElem_cons_succ, List.getElem_cons_zero, Act.put, List.setIfInBounds_toArray, List.set_cons_zero, List.set_cons_succ]
            refine wpAnyL_take (i := 4) (v := ?v4) rfl (by kernel_rfl) (by kernel_rfl) (by kernel_rfl) (by kernel_rfl) (by rfl) (fun _ _ _ h => h) hS (Or.inl ⟨by rfl, ?hy4⟩) ?hr4
            case hy4 => (intro w hSw; (try dsimp only at hSw); go_simp; (try rfl))
            simp only [List.getElem_toArray, List.getElem_cons_succ, List.getElem_cons_zero, Act.put, List.setIfInBounds_toArray, List.set_cons_zero, List.set_cons_succ]
            refine wpAnyL_take (i := 6) (v := ?v6) rfl (by kernel_rfl) (by kernel_rfl) (by kernel_rfl) (by kernel_rfl) (by rfl) (fun _ _ _ h => h) hS (Or.inl ⟨by rfl, ?hy6⟩) ?hr6
            case hy6 => (intro w hSw; (try dsimp only at hSw); go_simp; (try rfl))
            simp only [List.getElem_toArray, List.getElem_cons_succ, List.getElem_cons_zero, Act.put, List.setIfInBounds_toArray, List.set_cons_zero, List.set_cons_succ]
            refine wpAnyL_take (i := 7) (v := ?v7) rfl (by kernel_rfl) (by kernel_rfl) (by kernel_rfl) (by kernel_rfl) (by rfl) (fun _ _ _ h => h) hS (Or.inl ⟨by rfl, ?hy7⟩) ?hr7
            case hy7 => (intro w hSw; (try dsimp only at hSw); go_simp; (try rfl))
            simp only [List.getElem_toArray, List.getElem_cons_succ, List.getElem_cons_zero, Act.put, List.setIfInBounds_toArray, List.set_cons_zero, List.set_cons_succ]
            refine wpAnyL_take (i := 8) (v := ?v8) rfl (by kernel_rfl) (by kernel_rfl) (by kernel_rfl) (by kernel_rfl) (by rfl) (fun _ _ _ h => h) hS (Or.inl ⟨by rfl, ?hy8⟩) ?hr8
            case hy8 => (intro w hSw; (try dsimp only at hSw); go_simp; (try rfl))
            simp only [List.getElem_toArray, List.getElem_cons_succ, List.getElem_cons_zero, Act.put, List.setIfInBounds_toArray, List.set_cons_zero, List.set_cons_succ]
            refine wpAnyL_take (i := 9) (v := ?v9) rfl (by kernel_rfl) (by kernel_rfl) (by kernel_rfl) (by kernel_rfl) (by rfl) (fun _ _ _ h => h) hS (Or.inl ⟨by rfl, ?hy9⟩) ?hr9
            case hy9 => (intro w hSw; (try dsimp only at hSw); go_simp; (try rfl))
            simp only [List.getElem_toArray, List.getElem_cons_succ, List.getElem_cons_zero, Act.put, List.setIfInBounds_toArray, List.set_cons_zero, List.set_cons_succ]
            refine wpAnyL_take (i := 10) (v := ?v10) rfl (by kernel_rfl) (by kernel_rfl) (by kernel_rfl) (by kernel_rfl) (by rfl) (fun _ _ _ h => h) hS (Or.inl ⟨by rfl, ?hy10⟩) ?hr10
            case hy10 => (intro w hSw; (try dsimp only at hSw); go_simp; (try rfl))
            simp only [List.getElem_toArray, List.getElem_cons_succ, List.getElem_cons_zero, Act.put, List.setIfInBounds_toArray, List.set_cons_zero, List.set_cons_succ]
            clear hS q0 q1 q2 q3 q4 b0 b1 b2 c0 c1 c2 c3 c4 c5 f0 g0 t0
            have hG0 : Kb g wr wr.drew := (Kb.refl HBG.out).drew
            refine wpAnyL_float [⟨5, 59, [], []⟩, ⟨11, 65, [], []⟩, ⟨12, 16, [], []⟩, ⟨13, 17, [], []⟩] (CopyF wr m d) (fun W => Kb g wr W) (fun _ W W' => Below W.heap.size W W') _ (target := #[true, true, true, true, true, true, true, true, true, true, true, true, true, true, false, false]) (fuel0 := 2) (by decide) (by decide) (by simp) (fun W k => HKP.out W k)
              (fun _ _ _ _ _ _ _ _ hb h => h.step hb) ?hop ?hfin 4 [5, 11, 12, 13] _ _ _ (by kernel_rfl) (by decide) (fun _ _ => rfl) rfl rfl hG0 (by intro f hf; simp only [List.mem_cons, List.not_mem_nil, or_false] at hf; rcases hf with rfl | rfl | rfl | rfl <;> (intro h; simp at h))
            case hop =>
              intro e he a' w' K' hag hdf hG _ hK
              clear hdf
              simp only [List.mem_cons, List.not_mem_nil, or_false] at he
              rcases he with rfl | rfl | rfl | rfl
              · have h1 := getD_tmp ((hag 58 (by simp)).trans (show _ = some (.agg #[.int .i64 m.stops, .slice m_tA m.tracks.length m_tc, .slice m_sA m.shops.length m_sc]) from rfl))
                refine wpOp_step rfl ?_
                intro K2 hK2
                have HK2 := Lib.hid hK2
                clear hK2 hag
                go_simp
                refine (copyNet_any m m_tA m_sA m_tc m_sc _ (HMR.out _ hG) (by have := HFW.out.lt; omega) (by have := HFW.out.ls; omega)).mono ?_
                rintro e w5 ⟨e_tA, e_sA, e_tc, e_sc, rfl, hot, hoi, hb5⟩
                exact HK2.out _ _ (hK.out _ _ hb5 (hG.step hb5 hG.size HBG.out.lt) (CopyF.net ⟨e_tA, e_sA, e_tc, e_sc, rfl, row_lower hot hG.size, row_lower hoi hG.size⟩))
              · have h1 := getD_tmp ((hag 64 (by simp)).trans (show _ = some (.agg #[.slice d_gA d.gauges.length d_gc, .int .i64 d.size, .int .i64 d.load, .slice d_bA d.brakes.length d_bc, .slice d_hA d.heats.length d_hc, .bool d.hooks]) from rfl))
                refine wpOp_step rfl ?_
                intro K2 hK2
                have HK2 := Lib.hid hK2
                clear hK2 hag
                go_simp
                refine (copyCoach_own d d_gA d_bA d_hA d_gc d_bc d_hc _ (HDR.out _ hG) (by have := HFW.out.lg; omega) (by have := HFW.out.lb; omega) (by have := HFW.out.lh; omega)).mono ?_
                rintro e w6 ⟨f_gA, f_bA, f_hA, f_gc, f_bc, f_hc, rfl, o1, o2, o3, hb6⟩
                exact HK2.out _ _ (hK.out _ _ hb6 (hG.step hb6 hG.size HBG.out.lt) (CopyF.car ⟨f_gA, f_bA, f_hA, f_gc, f_bc, f_hc, rfl, row_lower o1 hG.size, row_lower o2 hG.size, row_lower o3 hG.size⟩))
              · refine wpOp_step rfl ?_
                intro K2 hK2
                have HK2 := Lib.hid hK2
                clear hK2 hag
                go_simp
                exact HK2.out _ _ (hK.out _ _ ((Below.refl _ _).alloc (Nat.le_refl _) _) (hG.alloc _) (CopyF.box ⟨_, rfl, hG.size, heap_alloc_new _ _⟩))
              · refine wpOp_step rfl ?_
                intro K2 hK2
                have HK2 := Lib.hid hK2
                clear hK2 hag
                go_simp
                exact HK2.out _ _ (hK.out _ _ ((Below.refl _ _).alloc (Nat.le_refl _) _) (hG.alloc _) (CopyF.box2 ⟨_, rfl, hG.size, heap_alloc_new _ _⟩))
            case hfin =>
              intro a' w' hag hdf hsz hG hF
              obtain ⟨v1, g1, F1⟩ := hF ⟨5, 59, [], []⟩ (by simp) (by simp)
              obtain ⟨v2, g2, F2⟩ := hF ⟨11, 65, [], []⟩ (by simp) (by simp)
              obtain ⟨v3, g3, F3⟩ := hF ⟨12, 16, [], []⟩ (by simp) (by simp)
              obtain ⟨v4, g4, F4⟩ := hF ⟨13, 17, [], []⟩ (by simp) (by simp)
              have ha := act_of [(59, v1), (65, v2), (16, v3), (17, v4)] hdf hsz (fun s hs => hag s (by simpa using hs)) (show ([59, 65, 16, 17] : List Nat).Nodup by decide) (fun x hx => by simp only [List.mem_cons, List.not_mem_nil, or_false] at hx; rcases hx with rfl | rfl | rfl | rfl <;> first | exact g1 | exact g2 | exact g3 | exact g4)
              obtain ⟨e_tA, e_sA, e_tc, e_sc, rfl, hot, hoi⟩ := F1.1 rfl
              obtain ⟨f_gA, f_bA, f_hA, f_gc, f_bc, f_hc, rfl, o1, o2, o3⟩ := F2.2.1 rfl
              obtain ⟨P2, rfl, hP2, hP⟩ := F3.2.2.1 rfl
              obtain ⟨Q2, rfl, hQ2, hQ⟩ := F4.2.2.2 rfl
              have HC := Lib.hid (copyAt_of (g := g) (w := wr) hP hQ hot hoi o1 o2 o3 hG HBG.out hP2 hQ2 HFW.out)
              subst ha
              simp only [List.foldl_cons, List.foldl_nil, Act.put, List.setIfInBounds_toArray, List.set_cons_zero, List.set_cons_succ]
              have hl1 := lt_of_block hP
              have hl2 := lt_of_block hQ
              have hne : P2 ≠ Q2 := fun e => by
                subst e
                rw [hP] at hQ
                exact absurd hQ (by simp [Z27o, Z30o])
              have hne' : Q2 ≠ P2 := Ne.symm hne
              have p0 : w'.cell? ⟨P2, 0, none⟩ = some (.int .i64 0) := blk_cell hP 0
              have p1 : w'.cell? ⟨P2, 1, none⟩ = some (.slice none 0 0) := blk_cell hP 1
              have p2 : w'.cell? ⟨P2, 2, none⟩ = some (.slice none 0 0) := blk_cell hP 2
              have pf0 := blk_frozen hP 0
              have pf1 := blk_frozen hP 1
              have pf2 := blk_frozen hP 2
              have r0 : w'.cell? ⟨Q2, 0, none⟩ = some (.slice none 0 0) := blk_cell hQ 0
              have r1 : w'.cell? ⟨Q2, 1, none⟩ = some (.int .i64 0) := blk_cell hQ 1
              have r2 : w'.cell? ⟨Q2, 2, none⟩ = some (.int .i64 0) := blk_cell hQ 2
              have r3 : w'.cell? ⟨Q2, 3, none⟩ = some (.slice none 0 0) := blk_cell hQ 3
              have r4 : w'.cell? ⟨Q2, 4, none⟩ = some (.slice none 0 0) := blk_cell hQ 4
              have r5 : w'.cell? ⟨Q2, 5, none⟩ = some (.bool false) := blk_cell hQ 5
              have rf0 := blk_frozen hQ 0
              have rf1 := blk_frozen hQ 1
              have rf2 := blk_frozen hQ 2
              have rf3 := blk_frozen hQ 3
              have rf4 := blk_frozen hQ 4
              have rf5 := blk_frozen hQ 5
              have HGK := Lib.hid hG
              have HPQ := Lib.hid (And.intro hP2 hQ2)
              clear hP hQ hot hoi o1 o2 o3 hG hP2 hQ2 F1 F2 F3 F4 g1 g2 g3 g4 hag hdf hsz hF hG0
              refine wpAnyL_one (i := 14) rfl (by kernel_rfl) ?_
              intro K hK
              have HK := Lib.hid hK
              clear hK
              go_simp
              refine HK.out.out _ _ (HKP.out _ (((HGK.out.setCell HPQ.out.1 HBG.out.lt _).setCell HPQ.out.1 HBG.out.lt _).setCell HPQ.out.1 HBG.out.lt _)) (fun _ => ?_)
              clear HK K
              refine wpAnyL_one (i := 15) rfl (by kernel_rfl) ?_
              intro K hK
              have HK := Lib.hid hK
              clear hK
              go_simp
              refine HK.out.out _ _ (HKP.out _ (((((((((HGK.out.setCell HPQ.out.1 HBG.out.lt _).setCell HPQ.out.1 HBG.out.lt _).setCell HPQ.out.1 HBG.out.lt _).setCell HPQ.out.2 HBG.out.lt _).setCell HPQ.out.2 HBG.out.lt _).setCell HPQ.out.2 HBG.out.lt _).setCell HPQ.out.2 HBG.out.lt _).setCell HPQ.out.2 HBG.out.lt _).setCell HPQ.out.2 HBG.out.lt _)) (fun _ => ?_)
              clear HK K
              refine wpAnyL_done (by kernel_rfl) ?_
              try simp only [Act.put]
              go_wp2_with fail
              go_meet
              exact ⟨P2, Q2, e_tA, e_sA, e_tc, e_sc, f_gA, f_bA, f_hA, f_gc, f_bc, f_hc, rfl, rfl, HC⟩
          case rest =>
            obtain ⟨P2, Q2, e_tA, e_sA, e_tc, e_sc, f_gA, f_bA, f_hA, f_gc, f_bc, f_hc, rfl, rfl, hC⟩ := hcut
            obtain ⟨w8, rfl⟩ : ∃ w8, w8 = wc := ⟨_, rfl⟩
            clear q0 q1 q2 q3 q4 b0 b1 b2 c0 c1 c2 c3 c4 c5 f0 g0 t0
            go_upto_if 69 with fail
            go_cut [18] (fun v wx => ∃ (A3 : Option Addr) (c3 : Nat) (l : List Int), v = .slice A3 l.length c3 ∧ l.length ≤ 20 ∧ Hid (Ints wx wx.heap.size A3 l) ∧ Hid (CopyAt g wr wx P2 Q2 m e_tA e_sA e_tc e_sc d f_gA f_bA f_hA f_gc f_bc f_hc))
            case first =>
              have hlt := HFW.out.lt
              have HWw : Hid (Ints w8 w8.heap.size wA way) := by
                have h1 := HWY.out.below hW.out
                have h2 := h1.below (hC.out.kb.below (B := w.heap.size) (by have := hQ.out.bg; omega) hC.out.gl)
                exact h2.more (Nat.le_trans hW.out.size hC.out.kb.size)
              have hS := HKP.out _ hC.out.kb.drew
              have HDC := Lib.hid (hC.out.step (Kb.refl hC.out.kb.bag).drew)
              go_wp2_with fail
              · go_region_held3 (fun W => ((W.cell? ⟨X, 0, none⟩ = some (.slice (some ⟨B, 0, none⟩) 5 5) ∧ W.cell? ⟨X, 1, none⟩ = some (.slice (some ⟨B + 1, 0, none⟩) 5 5) ∧ W.cell? ⟨X, 2, none⟩ = some (.slice (some ⟨B + 1 + 1, 0, none⟩) 5 5) ∧ W.cell? ⟨X, 3, none⟩ = some (.slice (some ⟨B + 1 + 1 + 1, 0, none⟩) 5 5) ∧ W.cell? ⟨X, 4, none⟩ = some (.slice (some ⟨B + 1 + 1 + 1 + 1, 0, none⟩) 5 5)) ∧ (W.cell? ⟨B, k * 3, none⟩ = some (.int .i64 m.stops) ∧ W.cell? ⟨B, k * 3 + 1, none⟩ = some (.slice m_tA m.tracks.length m_tc) ∧ W.cell? ⟨B, k * 3 + 2, none⟩ = some (.slice m_sA m.shops.length m_sc)) ∧ (W.cell? ⟨B + 1, k * 6, none⟩ = some (.slice d_gA d.gauges.length d_gc) ∧ W.cell? ⟨B + 1, k * 6 + 1, none⟩ = some (.int .i64 d.size) ∧ W.cell? ⟨B + 1, k * 6 + 2, none⟩ = some (.int .i64 d.load) ∧ W.cell? ⟨B + 1, k * 6 + 3, none⟩ = some (.slice d_bA d.brakes.length d_bc) ∧ W.cell? ⟨B + 1, k * 6 + 4, none⟩ = some (.slice d_hA d.heats.length d_hc) ∧ W.cell? ⟨B + 1, k * 6 + 5, none⟩ = some (.bool d.hooks)) ∧ (W.cell? ⟨B + 1 + 1, k, none⟩ = some (.int .i64 x1) ∧ W.cell? ⟨B + 1 + 1 + 1, k, none⟩ = some (.int .i64 x2) ∧ W.cell? ⟨B + 1 + 1 + 1 + 1, k, none⟩ = some (.int .i64 x3))))
                  (first | (with_reducible exact hS) | go_keep)
                  (first
                    | (go_at_call 31; refine (walkOf_ge g m m_tA m_sA m_tc m_sc x1 _ HDC.out.kb.bag (HMR.out _ HDC.out.kb).tracks HAP.out (by omega)).mono ?_; rintro e w9 ⟨A3, c3, l, rfl, ol, _, hl5, hk9⟩; have hS := HKP.out _ (HDC.out.kb.trans hk9); have HL9 := Lib.hid ol.ints; have HC9 := Lib.hid (HDC.out.step hk9); clear ol hk9))
                go_wp2_with fail
                go_meet
                exact ⟨A3, c3, l, rfl, by omega, HL9, HC9⟩
              · go_meet
                exact ⟨wA, wc, way, rfl, hw20, HWw, hC⟩
            case rest =>
            obtain ⟨A3, c3, l, rfl, hl20, hLw, hC2⟩ := hcut
            obtain ⟨v0, rfl⟩ : ∃ v0, v0 = wc := ⟨_, rfl⟩
            clear hC
            have hlt := HFW.out.lt
            obtain ⟨pv, kv, ev, hfv⟩ := firstVal_form m d x1 x2 l
            obtain ⟨av, gv, hcv⟩ := changesVal_form m d x1 x2 l
            have HFV := Lib.hid hfv
            have HCV := Lib.hid hcv
            clear hfv hcv
            go_wp2_with fail
            refine (copyInts_any A3 c3 l v0 hLw.out (by omega)).mono ?_
            rintro e v1 ⟨A5, c5, rfl, o5, hb⟩
            have kk := kb_of_below hC2.out.kb.bag hb
            have HC1 := Lib.hid (hC2.out.step kk)
            have LL1 : Hid (Ints v1 v1.heap.size A5 l ∧ Ints v1 v1.heap.size A3 l) := ⟨o5.ints, ints_step hLw.out hb⟩
            clear kk hb o5 hC2 hLw
            have HC1d := Lib.hid (HC1.out.step (Kb.refl HC1.out.kb.bag).drew)
            have LL1d : Hid (Ints v1.drew v1.drew.heap.size A5 l ∧ Ints v1.drew v1.drew.heap.size A3 l) := ⟨LL1.out.1.drew, LL1.out.2.drew⟩
            have hS := And.intro (HKP.out _ HC1d.out.kb) (HC1d.out.cells _ (Kb.refl HC1d.out.kb.bag))
            go_wp2_with fail
            go_region_held3 (fun W => ((W.cell? ⟨X, 0, none⟩ = some (.slice (some ⟨B, 0, none⟩) 5 5) ∧ W.cell? ⟨X, 1, none⟩ = some (.slice (some ⟨B + 1, 0, none⟩) 5 5) ∧ W.cell? ⟨X, 2, none⟩ = some (.slice (some ⟨B + 1 + 1, 0, none⟩) 5 5) ∧ W.cell? ⟨X, 3, none⟩ = some (.slice (some ⟨B + 1 + 1 + 1, 0, none⟩) 5 5) ∧ W.cell? ⟨X, 4, none⟩ = some (.slice (some ⟨B + 1 + 1 + 1 + 1, 0, none⟩) 5 5)) ∧ (W.cell? ⟨B, k * 3, none⟩ = some (.int .i64 m.stops) ∧ W.cell? ⟨B, k * 3 + 1, none⟩ = some (.slice m_tA m.tracks.length m_tc) ∧ W.cell? ⟨B, k * 3 + 2, none⟩ = some (.slice m_sA m.shops.length m_sc)) ∧ (W.cell? ⟨B + 1, k * 6, none⟩ = some (.slice d_gA d.gauges.length d_gc) ∧ W.cell? ⟨B + 1, k * 6 + 1, none⟩ = some (.int .i64 d.size) ∧ W.cell? ⟨B + 1, k * 6 + 2, none⟩ = some (.int .i64 d.load) ∧ W.cell? ⟨B + 1, k * 6 + 3, none⟩ = some (.slice d_bA d.brakes.length d_bc) ∧ W.cell? ⟨B + 1, k * 6 + 4, none⟩ = some (.slice d_hA d.heats.length d_hc) ∧ W.cell? ⟨B + 1, k * 6 + 5, none⟩ = some (.bool d.hooks)) ∧ (W.cell? ⟨B + 1 + 1, k, none⟩ = some (.int .i64 x1) ∧ W.cell? ⟨B + 1 + 1 + 1, k, none⟩ = some (.int .i64 x2) ∧ W.cell? ⟨B + 1 + 1 + 1 + 1, k, none⟩ = some (.int .i64 x3))) ∧ ((W.cell? ⟨P2, 0, none⟩ = some (.int .i64 m.stops) ∧ W.cell? ⟨P2, 1, none⟩ = some (.slice e_tA m.tracks.length e_tc) ∧ W.cell? ⟨P2, 2, none⟩ = some (.slice e_sA m.shops.length e_sc)) ∧ (W.cell? ⟨Q2, 0, none⟩ = some (.slice f_gA d.gauges.length f_gc) ∧ W.cell? ⟨Q2, 1, none⟩ = some (.int .i64 d.size) ∧ W.cell? ⟨Q2, 2, none⟩ = some (.int .i64 d.load) ∧ W.cell? ⟨Q2, 3, none⟩ = some (.slice f_bA d.brakes.length f_bc) ∧ W.cell? ⟨Q2, 4, none⟩ = some (.slice f_hA d.heats.length f_hc) ∧ W.cell? ⟨Q2, 5, none⟩ = some (.bool d.hooks))))
              (first | (with_reducible exact hS) | go_keep)
              (first
                | (go_at_call 32; refine (first_any m e_tA e_sA e_tc e_sc d f_gA f_bA f_hA f_gc f_bc f_hc x1 x2 A5 c5 l _ HC1d.out.nreads HC1d.out.creads LL1d.out.1 (by omega)).mono ?_; rintro e v2 ⟨rfl, hb⟩; rw [HFV.out]; have kk := kb_of_below HC1d.out.kb.bag hb; have HC2 := Lib.hid (HC1d.out.step kk); have LL2 : Hid (Ints v2 v2.heap.size A5 l ∧ Ints v2 v2.heap.size A3 l) := ⟨ints_step LL1d.out.1 hb, ints_step LL1d.out.2 hb⟩; have hS := And.intro (HKP.out _ HC2.out.kb) (HC2.out.cells _ (Kb.refl HC2.out.kb.bag)); clear kk hb))
            clear hS HC1 LL1 HC1d LL1d
            have HC2d := Lib.hid (HC2.out.step (Kb.refl HC2.out.kb.bag).drew)
            have LL2d : Hid (Ints v2.drew v2.drew.heap.size A5 l ∧ Ints v2.drew v2.drew.heap.size A3 l) := ⟨LL2.out.1.drew, LL2.out.2.drew⟩
            have hS := And.intro (HKP.out _ HC2d.out.kb) (HC2d.out.cells _ (Kb.refl HC2d.out.kb.bag))
            go_wp2_with fail
            go_region_held3 (fun W => ((W.cell? ⟨X, 0, none⟩ = some (.slice (some ⟨B, 0, none⟩) 5 5) ∧ W.cell? ⟨X, 1, none⟩ = some (.slice (some ⟨B + 1, 0, none⟩) 5 5) ∧ W.cell? ⟨X, 2, none⟩ = some (.slice (some ⟨B + 1 + 1, 0, none⟩) 5 5) ∧ W.cell? ⟨X, 3, none⟩ = some (.slice (some ⟨B + 1 + 1 + 1, 0, none⟩) 5 5) ∧ W.cell? ⟨X, 4, none⟩ = some (.slice (some ⟨B + 1 + 1 + 1 + 1, 0, none⟩) 5 5)) ∧ (W.cell? ⟨B, k * 3, none⟩ = some (.int .i64 m.stops) ∧ W.cell? ⟨B, k * 3 + 1, none⟩ = some (.slice m_tA m.tracks.length m_tc) ∧ W.cell? ⟨B, k * 3 + 2, none⟩ = some (.slice m_sA m.shops.length m_sc)) ∧ (W.cell? ⟨B + 1, k * 6, none⟩ = some (.slice d_gA d.gauges.length d_gc) ∧ W.cell? ⟨B + 1, k * 6 + 1, none⟩ = some (.int .i64 d.size) ∧ W.cell? ⟨B + 1, k * 6 + 2, none⟩ = some (.int .i64 d.load) ∧ W.cell? ⟨B + 1, k * 6 + 3, none⟩ = some (.slice d_bA d.brakes.length d_bc) ∧ W.cell? ⟨B + 1, k * 6 + 4, none⟩ = some (.slice d_hA d.heats.length d_hc) ∧ W.cell? ⟨B + 1, k * 6 + 5, none⟩ = some (.bool d.hooks)) ∧ (W.cell? ⟨B + 1 + 1, k, none⟩ = some (.int .i64 x1) ∧ W.cell? ⟨B + 1 + 1 + 1, k, none⟩ = some (.int .i64 x2) ∧ W.cell? ⟨B + 1 + 1 + 1 + 1, k, none⟩ = some (.int .i64 x3))) ∧ ((W.cell? ⟨P2, 0, none⟩ = some (.int .i64 m.stops) ∧ W.cell? ⟨P2, 1, none⟩ = some (.slice e_tA m.tracks.length e_tc) ∧ W.cell? ⟨P2, 2, none⟩ = some (.slice e_sA m.shops.length e_sc)) ∧ (W.cell? ⟨Q2, 0, none⟩ = some (.slice f_gA d.gauges.length f_gc) ∧ W.cell? ⟨Q2, 1, none⟩ = some (.int .i64 d.size) ∧ W.cell? ⟨Q2, 2, none⟩ = some (.int .i64 d.load) ∧ W.cell? ⟨Q2, 3, none⟩ = some (.slice f_bA d.brakes.length f_bc) ∧ W.cell? ⟨Q2, 4, none⟩ = some (.slice f_hA d.heats.length f_hc) ∧ W.cell? ⟨Q2, 5, none⟩ = some (.bool d.hooks))))
              (first | (with_reducible exact hS) | go_keep)
              (first
                | (go_at_call 38; refine (rfirst_any m m_tA m_sA m_tc m_sc d d_gA d_bA d_hA d_gc d_bc d_hc x1 x2 A3 c3 l _ (HMR.out _ HC2d.out.kb) (HDR.out _ HC2d.out.kb) LL2d.out.2 (by omega)).mono ?_; rintro e v3 ⟨rfl, hb⟩; rw [HFV.out]; have kk := kb_of_below HC2d.out.kb.bag hb; have HC3 := Lib.hid (HC2d.out.step kk); have LL3 : Hid (Ints v3 v3.heap.size A5 l ∧ Ints v3 v3.heap.size A3 l) := ⟨ints_step LL2d.out.1 hb, ints_step LL2d.out.2 hb⟩; have hS := And.intro (HKP.out _ HC3.out.kb) (HC3.out.cells _ (Kb.refl HC3.out.kb.bag)); clear kk hb))
            clear hS HC2 LL2 HC2d LL2d
            have HC3d := Lib.hid (HC3.out.step (Kb.refl HC3.out.kb.bag).drew)
            have LL3d : Hid (Ints v3.drew v3.drew.heap.size A5 l ∧ Ints v3.drew v3.drew.heap.size A3 l) := ⟨LL3.out.1.drew, LL3.out.2.drew⟩
            have hS := And.intro (HKP.out _ HC3d.out.kb) (HC3d.out.cells _ (Kb.refl HC3d.out.kb.bag))
            go_wp2_with fail
            go_region_held3 (fun W => ((W.cell? ⟨X, 0, none⟩ = some (.slice (some ⟨B, 0, none⟩) 5 5) ∧ W.cell? ⟨X, 1, none⟩ = some (.slice (some ⟨B + 1, 0, none⟩) 5 5) ∧ W.cell? ⟨X, 2, none⟩ = some (.slice (some ⟨B + 1 + 1, 0, none⟩) 5 5) ∧ W.cell? ⟨X, 3, none⟩ = some (.slice (some ⟨B + 1 + 1 + 1, 0, none⟩) 5 5) ∧ W.cell? ⟨X, 4, none⟩ = some (.slice (some ⟨B + 1 + 1 + 1 + 1, 0, none⟩) 5 5)) ∧ (W.cell? ⟨B, k * 3, none⟩ = some (.int .i64 m.stops) ∧ W.cell? ⟨B, k * 3 + 1, none⟩ = some (.slice m_tA m.tracks.length m_tc) ∧ W.cell? ⟨B, k * 3 + 2, none⟩ = some (.slice m_sA m.shops.length m_sc)) ∧ (W.cell? ⟨B + 1, k * 6, none⟩ = some (.slice d_gA d.gauges.length d_gc) ∧ W.cell? ⟨B + 1, k * 6 + 1, none⟩ = some (.int .i64 d.size) ∧ W.cell? ⟨B + 1, k * 6 + 2, none⟩ = some (.int .i64 d.load) ∧ W.cell? ⟨B + 1, k * 6 + 3, none⟩ = some (.slice d_bA d.brakes.length d_bc) ∧ W.cell? ⟨B + 1, k * 6 + 4, none⟩ = some (.slice d_hA d.heats.length d_hc) ∧ W.cell? ⟨B + 1, k * 6 + 5, none⟩ = some (.bool d.hooks)) ∧ (W.cell? ⟨B + 1 + 1, k, none⟩ = some (.int .i64 x1) ∧ W.cell? ⟨B + 1 + 1 + 1, k, none⟩ = some (.int .i64 x2) ∧ W.cell? ⟨B + 1 + 1 + 1 + 1, k, none⟩ = some (.int .i64 x3))) ∧ ((W.cell? ⟨P2, 0, none⟩ = some (.int .i64 m.stops) ∧ W.cell? ⟨P2, 1, none⟩ = some (.slice e_tA m.tracks.length e_tc) ∧ W.cell? ⟨P2, 2, none⟩ = some (.slice e_sA m.shops.length e_sc)) ∧ (W.cell? ⟨Q2, 0, none⟩ = some (.slice f_gA d.gauges.length f_gc) ∧ W.cell? ⟨Q2, 1, none⟩ = some (.int .i64 d.size) ∧ W.cell? ⟨Q2, 2, none⟩ = some (.int .i64 d.load) ∧ W.cell? ⟨Q2, 3, none⟩ = some (.slice f_bA d.brakes.length f_bc) ∧ W.cell? ⟨Q2, 4, none⟩ = some (.slice f_hA d.heats.length f_hc) ∧ W.cell? ⟨Q2, 5, none⟩ = some (.bool d.hooks))))
              (first | (with_reducible exact hS) | go_keep)
              (first
                | (go_at_call 39; refine (changes_any m e_tA e_sA e_tc e_sc d f_gA f_bA f_hA f_gc f_bc f_hc x1 x2 A5 c5 l _ HC3d.out.nreads HC3d.out.creads LL3d.out.1 (by omega)).mono ?_; rintro e v4 ⟨rfl, hb⟩; rw [HCV.out]; have kk := kb_of_below HC3d.out.kb.bag hb; have HC4 := Lib.hid (HC3d.out.step kk); have LL4 : Hid (Ints v4 v4.heap.size A5 l ∧ Ints v4 v4.heap.size A3 l) := ⟨ints_step LL3d.out.1 hb, ints_step LL3d.out.2 hb⟩; have hS := And.intro (HKP.out _ HC4.out.kb) (HC4.out.cells _ (Kb.refl HC4.out.kb.bag)); clear kk hb))
            clear hS HC3 LL3 HC3d LL3d
            have HC4d := Lib.hid (HC4.out.step (Kb.refl HC4.out.kb.bag).drew)
            have LL4d : Hid (Ints v4.drew v4.drew.heap.size A5 l ∧ Ints v4.drew v4.drew.heap.size A3 l) := ⟨LL4.out.1.drew, LL4.out.2.drew⟩
            have hS := And.intro (HKP.out _ HC4d.out.kb) (HC4d.out.cells _ (Kb.refl HC4d.out.kb.bag))
            go_wp2_with fail
            go_region_held3 (fun W => ((W.cell? ⟨X, 0, none⟩ = some (.slice (some ⟨B, 0, none⟩) 5 5) ∧ W.cell? ⟨X, 1, none⟩ = some (.slice (some ⟨B + 1, 0, none⟩) 5 5) ∧ W.cell? ⟨X, 2, none⟩ = some (.slice (some ⟨B + 1 + 1, 0, none⟩) 5 5) ∧ W.cell? ⟨X, 3, none⟩ = some (.slice (some ⟨B + 1 + 1 + 1, 0, none⟩) 5 5) ∧ W.cell? ⟨X, 4, none⟩ = some (.slice (some ⟨B + 1 + 1 + 1 + 1, 0, none⟩) 5 5)) ∧ (W.cell? ⟨B, k * 3, none⟩ = some (.int .i64 m.stops) ∧ W.cell? ⟨B, k * 3 + 1, none⟩ = some (.slice m_tA m.tracks.length m_tc) ∧ W.cell? ⟨B, k * 3 + 2, none⟩ = some (.slice m_sA m.shops.length m_sc)) ∧ (W.cell? ⟨B + 1, k * 6, none⟩ = some (.slice d_gA d.gauges.length d_gc) ∧ W.cell? ⟨B + 1, k * 6 + 1, none⟩ = some (.int .i64 d.size) ∧ W.cell? ⟨B + 1, k * 6 + 2, none⟩ = some (.int .i64 d.load) ∧ W.cell? ⟨B + 1, k * 6 + 3, none⟩ = some (.slice d_bA d.brakes.length d_bc) ∧ W.cell? ⟨B + 1, k * 6 + 4, none⟩ = some (.slice d_hA d.heats.length d_hc) ∧ W.cell? ⟨B + 1, k * 6 + 5, none⟩ = some (.bool d.hooks)) ∧ (W.cell? ⟨B + 1 + 1, k, none⟩ = some (.int .i64 x1) ∧ W.cell? ⟨B + 1 + 1 + 1, k, none⟩ = some (.int .i64 x2) ∧ W.cell? ⟨B + 1 + 1 + 1 + 1, k, none⟩ = some (.int .i64 x3))) ∧ ((W.cell? ⟨P2, 0, none⟩ = some (.int .i64 m.stops) ∧ W.cell? ⟨P2, 1, none⟩ = some (.slice e_tA m.tracks.length e_tc) ∧ W.cell? ⟨P2, 2, none⟩ = some (.slice e_sA m.shops.length e_sc)) ∧ (W.cell? ⟨Q2, 0, none⟩ = some (.slice f_gA d.gauges.length f_gc) ∧ W.cell? ⟨Q2, 1, none⟩ = some (.int .i64 d.size) ∧ W.cell? ⟨Q2, 2, none⟩ = some (.int .i64 d.load) ∧ W.cell? ⟨Q2, 3, none⟩ = some (.slice f_bA d.brakes.length f_bc) ∧ W.cell? ⟨Q2, 4, none⟩ = some (.slice f_hA d.heats.length f_hc) ∧ W.cell? ⟨Q2, 5, none⟩ = some (.bool d.hooks))))
              (first | (with_reducible exact hS) | go_keep)
              (first
                | (go_at_call 40; refine (rchanges_any m m_tA m_sA m_tc m_sc d d_gA d_bA d_hA d_gc d_bc d_hc x1 x2 A3 c3 l _ (HMR.out _ HC4d.out.kb) (HDR.out _ HC4d.out.kb) LL4d.out.2 (by omega)).mono ?_; rintro e v5 ⟨rfl, hb⟩; rw [HCV.out]; have kk := kb_of_below HC4d.out.kb.bag hb; have HC5 := Lib.hid (HC4d.out.step kk); have LL5 : Hid (Ints v5 v5.heap.size A5 l ∧ Ints v5 v5.heap.size A3 l) := ⟨ints_step LL4d.out.1 hb, ints_step LL4d.out.2 hb⟩; have hS := And.intro (HKP.out _ HC5.out.kb) (HC5.out.cells _ (Kb.refl HC5.out.kb.bag)); clear kk hb))
            clear hS HC4 LL4 HC4d LL4d
            obtain ⟨⟨p0, p1, p2⟩, r0, r1, r2, r3, r4, r5⟩ := HC5.out.cells _ (Kb.refl HC5.out.kb.bag)
            obtain ⟨⟨q0, q1, q2, q3, q4⟩, ⟨b0, b1, b2⟩, ⟨c0, c1, c2, c3', c4, c5'⟩, f0, g0, t0⟩ := HKP.out _ HC5.out.kb
            have HSZ : Hid (B + 1 < wr.heap.size) := lt_of_block hQ.out.cb
            go_wp2_with (first
              | (go_at_call 24; refine (equal_same A5 A3 c5 c3 l v5 LL5.out.1 LL5.out.2 (by omega)).mono ?_; rintro e v6 ⟨rfl, hb⟩; have kk := kb_of_below HC5.out.kb.bag hb; have HC6 := Lib.hid (HC5.out.step kk); have LL6 : Hid (Ints v6 v6.heap.size A5 l ∧ Ints v6 v6.heap.size A3 l) := ⟨ints_step LL5.out.1 hb, ints_step LL5.out.2 hb⟩; have hS := And.intro (HKP.out _ HC6.out.kb) (HC6.out.cells _ (Kb.refl HC6.out.kb.bag)); clear kk hb; clear q0 q1 q2 q3 q4 b0 b1 b2 c0 c1 c2 c3' c4 c5' f0 g0 t0 p0 p1 p2 r0 r1 r2 r3 r4 r5; obtain ⟨⟨q0, q1, q2, q3, q4⟩, ⟨p0, p1, p2⟩, r0, r1, r2, r3, r4, r5⟩ := And.intro hS.1.1 hS.2; clear hS)
              | (go_at_call 41; refine (same_any m e_tA e_sA e_tc e_sc d f_gA f_bA f_hA f_gc f_bc f_hc m_tA m_sA m_tc m_sc d_gA d_bA d_hA d_gc d_bc d_hc B k v6 HC6.out.nreads (HMR.out _ HC6.out.kb) HC6.out.creads (HDR.out _ HC6.out.kb) (by omega) (by have := HFW.out.ls; omega) (by have := HFW.out.lg; omega) (by have := HFW.out.lb; omega) (by have := HFW.out.lh; omega) hk5 (by have := HC6.out.kb.size; have := HSZ.out; omega) (HKP.out _ HC6.out.kb).2.1 (HKP.out _ HC6.out.kb).2.2.1).mono ?_; rintro e v7 ⟨rfl, hb⟩; have kk := kb_of_below HC6.out.kb.bag hb; have HC7 := Lib.hid (HC6.out.step kk); have LL7 : Hid (Ints v7 v7.heap.size A5 l ∧ Ints v7 v7.heap.size A3 l) := ⟨ints_step LL6.out.1 hb, ints_step LL6.out.2 hb⟩; have hS := And.intro (HKP.out _ HC7.out.kb) (HC7.out.cells _ (Kb.refl HC7.out.kb.bag)); clear kk hb; clear hS))
            have HQn := Lib.hid (hQ.out.kb HC7.out.kb)
            have HWn := Lib.hid (hW.out.trans (HC7.out.kb.below (B := w.heap.size) (by have := hQ.out.bg; omega) HC7.out.gl))
            clear hQ hW HC5 HC6 HC7 LL5 LL6 LL7 HKP HMR HDR HFW HBG HSZ
            go_wp2_with fail
            go_roundw
            case rel => exact ⟨k + 1, by omega, by go_num, HQn, HWn⟩
            case measure => simp [intOf]; omega
        · obtain rfl : k = 5 := by omega
          have HW5 := Lib.hid hW.out
          clear hW hQ
          go_wp2_with fail
          refine (rolling_any wr).mono ?_
          rintro e w5 ⟨rfl, hb5⟩
          have HW6 := Lib.hid (HW5.out.trans (hb5.mono HW5.out.size))
          clear hb5
          go_wp2_with fail
          go_ret
          exact ⟨rfl, HW6.out⟩
  · clear hh hb
    go_enter Try.func6, Try.ntmps6
    go_wp2_with fail
    generalize ((w.alloc (.cells #[.int .i64 a.stops, .slice a_tA a.tracks.length a_tc, .slice a_sA a.shops.length a_sc] 27)).alloc (.cells #[.slice z_gA z.gauges.length z_gc, .int .i64 z.size, .int .i64 z.load, .slice z_bA z.brakes.length z_bc, .slice z_hA z.heats.length z_hc, .bool z.hooks] 30)) = w0 at *
    go_wp2_with fail
    refine (large_any a a_tA a_sA a_tc a_sc z z_gA z_bA z_hA z_gc z_bc z_hc w0).mono ?_
    rintro e w1 ⟨rfl, hb1⟩
    rw [HS.out] at hb1
    rw [hL]
    have HB1 := Lib.hid hb1
    have HSz1 : Hid (w.heap.size + 2 ≤ w1.heap.size) := HS.out ▸ hb1.size
    clear hb1 hL
    go_wp2_with fail
    refine (rolling_any w1).mono ?_
    rintro e w2 ⟨rfl, hb2⟩
    have HB2 := Lib.hid (HB1.out.trans (hb2.mono HSz1.out))
    clear hb2
    go_wp2_with fail
    go_ret
    exact ⟨rfl, HB.out.trans (HB2.out.mono (by omega))⟩
end Go.Proofs.Ytpbjpochjagicaa
