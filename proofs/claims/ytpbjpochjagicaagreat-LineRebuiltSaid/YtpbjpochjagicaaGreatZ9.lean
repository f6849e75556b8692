/- Walks: every, Comes, Rebuild of the reference. -/
import Derived.Test.YtpbjpochjagicaaGreatZ5
import Derived.Test.YtpbjpochjagicaaGreatW69
import Derived.Test.YtpbjpochjagicaaGreatW23
namespace Go.Proofs.YtpbjpochjagicaaGreat
open Go.RowKit

theorem own_caps {w : World} {b : Nat} {A : Option Addr} {c : Nat} {xs : List Int} (h : OwnInts w b A c xs) : xs.length ≤ c ∧ c ≤ 9223372036854775807 := by
  rcases h.2 with ⟨h1, h2⟩ | ⟨g, cap, cur, hv, _, _, h3, h4, _⟩
  · injection h1 with h1 h3 h4
    omega
  · injection hv with _ _ hc
    subst hc
    exact ⟨h3, by simp only [maxLen] at h4; omega⟩
theorem nums_len (k : Nat) : (Pl.nums k).length = k := by simp [Pl.nums]

set_option maxRecDepth 20000 in
set_option maxHeartbeats 8000000 in
theorem revery_any (n : Pl.Nt) (n_tA n_sA : Option Addr) (n_tc n_sc : Nat) (w : World) (ht : n.tracks.length ≤ 8) :
    Calls Tryz.prog 65 #[.agg #[.int .i64 n.stops, .slice n_tA n.tracks.length n_tc, .slice n_sA n.shops.length n_sc]] w fun e w' => ∃ A cp, e = .returned (.slice A n.tracks.length cp) ∧ OwnInts w' w.heap.size A cp (Pl.nums n.tracks.length) ∧ Below w.heap.size w w' := by
  obtain ⟨w1, hw1⟩ : ∃ w1, w1 = w.alloc (.cells #[.int .i64 n.stops, .slice n_tA n.tracks.length n_tc, .slice n_sA n.shops.length n_sc] 25) := ⟨_, rfl⟩
  have hbn : w1.heap[w.heap.size]? = some (.cells #[.int .i64 n.stops, .slice n_tA n.tracks.length n_tc, .slice n_sA n.shops.length n_sc] 25 (0, 0)) := by rw [hw1]; exact heap_alloc_new _ _
  have hb1 : Below w.heap.size w w1 := by rw [hw1]; exact (Below.refl _ _).alloc (Nat.le_refl _) _
  have HBN := Lib.hid hbn
  have HB1 := Lib.hid hb1
  have HW1 := Lib.hid hw1
  have HS1 : Hid (w.heap.size < w1.heap.size) := lt_of_block hbn
  clear hbn hb1 hw1
  go_enter Tryz.func65, Tryz.ntmps65
  go_upto_region 1 with fail
  rw [← HW1.out]
  go_wp2_with fail
  go_loopw [3, 4] (fun lv iv wr => ∃ (A : Option Addr) (cp k : Nat), k ≤ n.tracks.length ∧ lv = .slice A (Pl.nums k).length cp ∧ iv = .int .i64 k ∧ Hid (OwnInts wr w1.heap.size A cp (Pl.nums k)) ∧ Hid (Below w1.heap.size w1 wr)) (fun _ i _ => n.tracks.length - (intOf i).toNat)
  case atStart => exact ⟨none, 0, 0, Nat.zero_le _, rfl, rfl, ⟨rfl, .inl ⟨rfl, rfl⟩⟩, Below.refl _ _⟩
  case round =>
    obtain ⟨A, cp, k, hk, rfl, rfl, hO, hB⟩ := hrel
    have x1 := blk_cell (blk_below HBN.out hB.out (lt_of_block HBN.out)) 1
    have hws := hB.out.size
    have hlk := nums_len k
    by_cases hks : k < n.tracks.length
    · have hki : (k : Int) < (n.tracks.length : Int) := by omega
      have HE := Lib.hid (nums_succ k)
      have HLK := Lib.hid hlk
      go_wp2_with (at_builtin; refine wpl_app_ints rfl (.tmp 12) (.tmp 14) 23 rfl w1.heap.size Tryz.underlying23 int_info A cp (Pl.nums k) rfl (own_alloc hO.out _) (wr.heap.size + 1) (some ⟨wr.heap.size, 0, none⟩) 1 [(k : Int)] rfl (ints_one _ _ _ (by simp) (by omega)) (by simp; omega) (by simp; omega) ?_; intro A2 c2 w8 hown8 hg8 hat8; have Hfar := Lib.hid ((hB.out.alloc hws _).grown hg8 (by simp; omega) (own_from hO.out)); have Hown8 := Lib.hid hown8; clear hown8 hg8 hat8)
      go_roundw
      case rel => exact ⟨A2, c2, k + 1, by omega, by rw [HE.out, List.length_append, HLK.out]; rfl, by go_num, by rw [HE.out]; exact Hown8, Hfar⟩
      case measure => simp [intOf]; omega
    · obtain rfl : k = n.tracks.length := by omega
      have hkf : decide ((n.tracks.length : Int) < (n.tracks.length : Int)) = false := by simp
      have HO2 : Hid (OwnInts wr w.heap.size A cp (Pl.nums n.tracks.length)) := own_less hO.out (by have := HS1.out; omega)
      have HLK := Lib.hid hlk
      clear hlk hO
      go_wp2_with fail
      go_ret
      exact ⟨A, cp, by rw [HLK.out]; try rfl, HO2.out, HB1.out.trans (hB.out.mono HB1.out.size)⟩

set_option maxRecDepth 20000 in
set_option maxHeartbeats 8000000 in
theorem rComes_any (n : Pl.Nt) (n_tA n_sA : Option Addr) (n_tc n_sc : Nat) (c : Pl.Cch) (c_gA c_bA c_hA : Option Addr) (c_gc c_bc c_hc : Nat) (rA : Option Addr) (reb : List Int) (rc : Nat) (fr g ds : Int) (w : World) (hn : NReads w w.heap.size n n_tA n_sA n_tc n_sc) (hr : CReads w w.heap.size c c_gA c_bA c_hA c_gc c_bc c_hc) (hreb : Ints w w.heap.size rA reb) (hrl : reb.length ≤ 140737488355328) (hck : Pl.check n = 0) (hp0 : ((fr, g) : Pl.Place) ∈ Pl.spots) (d0 : 0 ≤ ds) (d5 : ds ≤ 5) :
    Calls Tryz.prog 66 #[.agg #[.int .i64 n.stops, .slice n_tA n.tracks.length n_tc, .slice n_sA n.shops.length n_sc], .agg #[.slice c_gA c.gauges.length c_gc, .int .i64 c.size, .int .i64 c.load, .slice c_bA c.brakes.length c_bc, .slice c_hA c.heats.length c_hc, .bool c.hooks], .slice rA reb.length rc, .int .i64 fr, .int .i64 g, .int .i64 ds] w fun e w' => e = .returned (.bool (Pl.comes n c reb (fr, g) ds)) ∧ Below w.heap.size w w' := by
  obtain ⟨w2, hw2⟩ : ∃ w2, w2 = (w.alloc (.cells #[.int .i64 n.stops, .slice n_tA n.tracks.length n_tc, .slice n_sA n.shops.length n_sc] 25)).alloc (.cells #[.slice c_gA c.gauges.length c_gc, .int .i64 c.size, .int .i64 c.load, .slice c_bA c.brakes.length c_bc, .slice c_hA c.heats.length c_hc, .bool c.hooks] 27) := ⟨_, rfl⟩
  have hb2 : Below w.heap.size w w2 := by rw [hw2]; exact ((Below.refl _ _).alloc (Nat.le_refl _) _).alloc (by simp) _
  have hbn : w2.heap[w.heap.size]? = some (.cells #[.int .i64 n.stops, .slice n_tA n.tracks.length n_tc, .slice n_sA n.shops.length n_sc] 25 (0, 0)) := by rw [hw2]; exact blk_alloc (heap_alloc_new _ _) _
  have hbc : w2.heap[w.heap.size + 1]? = some (.cells #[.slice c_gA c.gauges.length c_gc, .int .i64 c.size, .int .i64 c.load, .slice c_bA c.brakes.length c_bc, .slice c_hA c.heats.length c_hc, .bool c.hooks] 27 (0, 0)) := by rw [hw2]; simpa using heap_alloc_new (w.alloc (.cells #[.int .i64 n.stops, .slice n_tA n.tracks.length n_tc, .slice n_sA n.shops.length n_sc] 25)) (.cells #[.slice c_gA c.gauges.length c_gc, .int .i64 c.size, .int .i64 c.load, .slice c_bA c.brakes.length c_bc, .slice c_hA c.heats.length c_hc, .bool c.hooks] 27)
  have hcm := rcomes_any n n_tA n_sA n_tc n_sc c c_gA c_bA c_hA c_gc c_bc c_hc rA reb rc (-1) fr g ds w2 ((hn.below hb2).more hb2.size) ((hr.below hb2).more hb2.size) ((hreb.below hb2).more hb2.size) hrl hck hp0 d0 d5
  rw [Pl.comesB_all] at hcm
  have HCM := Lib.hid hcm
  have HW2 := Lib.hid hw2
  have HB2 := Lib.hid hb2
  have x0 := blk_cell hbn 0
  have x1 := blk_cell hbn 1
  have x2 := blk_cell hbn 2
  have y0 := blk_cell hbc 0
  have y1 := blk_cell hbc 1
  have y2 := blk_cell hbc 2
  have y3 := blk_cell hbc 3
  have y4 := blk_cell hbc 4
  have y5 := blk_cell hbc 5
  clear hn hr hreb hck hp0 hb2 hbn hbc hw2 hcm
  go_enter Tryz.func66, Tryz.ntmps66
  go_upto_region 1 with fail
  rw [← HW2.out]
  go_wp2_with (go_at_call 45; refine HCM.out.mono ?_; rintro e w6 ⟨rfl, hb6⟩; have HB6 := Lib.hid hb6; clear hb6 x0 x1 x2 y0 y1 y2 y3 y4 y5)
  go_ret
  exact ⟨rfl, HB2.out.trans (HB6.out.mono HB2.out.size)⟩

set_option maxRecDepth 20000 in
set_option maxHeartbeats 20000000 in
theorem rrebuild_any (n : Pl.Nt) (n_tA n_sA : Option Addr) (n_tc n_sc : Nat) (c : Pl.Cch) (c_gA c_bA c_hA : Option Addr) (c_gc c_bc c_hc : Nat) (fr g ds : Int) (w : World) (hn : NReads w w.heap.size n n_tA n_sA n_tc n_sc) (hr : CReads w w.heap.size c c_gA c_bA c_hA c_gc c_bc c_hc) :
    Calls Tryz.prog 26 #[.agg #[.int .i64 n.stops, .slice n_tA n.tracks.length n_tc, .slice n_sA n.shops.length n_sc], .agg #[.slice c_gA c.gauges.length c_gc, .int .i64 c.size, .int .i64 c.load, .slice c_bA c.brakes.length c_bc, .slice c_hA c.heats.length c_hc, .bool c.hooks], .int .i64 fr, .int .i64 g, .int .i64 ds] w (ListPost (Pl.asked n c fr g ds) (Pl.rebuild n c fr g ds) w) := by
  obtain ⟨w2, hw2⟩ : ∃ w2, w2 = (w.alloc (.cells #[.int .i64 n.stops, .slice n_tA n.tracks.length n_tc, .slice n_sA n.shops.length n_sc] 25)).alloc (.cells #[.slice c_gA c.gauges.length c_gc, .int .i64 c.size, .int .i64 c.load, .slice c_bA c.brakes.length c_bc, .slice c_hA c.heats.length c_hc, .bool c.hooks] 27) := ⟨_, rfl⟩
  have hb2 : Below w.heap.size w w2 := by rw [hw2]; exact ((Below.refl _ _).alloc (Nat.le_refl _) _).alloc (by simp) _
  have hbn : w2.heap[w.heap.size]? = some (.cells #[.int .i64 n.stops, .slice n_tA n.tracks.length n_tc, .slice n_sA n.shops.length n_sc] 25 (0, 0)) := by rw [hw2]; exact blk_alloc (heap_alloc_new _ _) _
  have hbc : w2.heap[w.heap.size + 1]? = some (.cells #[.slice c_gA c.gauges.length c_gc, .int .i64 c.size, .int .i64 c.load, .slice c_bA c.brakes.length c_bc, .slice c_hA c.heats.length c_hc, .bool c.hooks] 27 (0, 0)) := by rw [hw2]; simpa using heap_alloc_new (w.alloc (.cells #[.int .i64 n.stops, .slice n_tA n.tracks.length n_tc, .slice n_sA n.shops.length n_sc] 25)) (.cells #[.slice c_gA c.gauges.length c_gc, .int .i64 c.size, .int .i64 c.load, .slice c_bA c.brakes.length c_bc, .slice c_hA c.heats.length c_hc, .bool c.hooks] 27)
  have HN := Lib.hid hn
  have HR := Lib.hid hr
  have HW2 := Lib.hid hw2
  have HB2 := Lib.hid hb2
  have HS2 : Hid (w.heap.size + 1 < w2.heap.size) := lt_of_block hbc
  have HAS := Lib.hid (rasked_any n n_tA n_sA n_tc n_sc c c_gA c_bA c_hA c_gc c_bc c_hc fr g ds w2 ((hn.below hb2).more hb2.size) ((hr.below hb2).more hb2.size))
  have HKP := Lib.hid (boxes_keep n n_tA n_sA n_tc n_sc c c_gA c_bA c_hA c_gc c_bc c_hc hbn hbc)
  obtain ⟨⟨x0, x1, x2⟩, y0, y1, y2, y3, y4, y5⟩ := HKP.out _ (Below.refl _ _)
  clear hn hr hb2 hbn hbc hw2
  by_cases hA : Pl.asked n c fr g ds = 0
  · obtain ⟨hp0, d0, d5⟩ := spot_of hA
    have hck := (asked_good hA).1
    have ht8 := (check_tracks hck).1
    obtain ⟨f, hf⟩ : ∃ f : List Int → Bool, (fun l => Pl.comes n c l (fr, g) ds) = f := ⟨_, rfl⟩
    have HC : Hid (∀ (W : World) (rA : Option Addr) (l : List Int) (rc : Nat), Below w.heap.size w W → Ints W W.heap.size rA l → l.length ≤ 1000 → Calls Tryz.prog 66 #[.agg #[.int .i64 n.stops, .slice n_tA n.tracks.length n_tc, .slice n_sA n.shops.length n_sc], .agg #[.slice c_gA c.gauges.length c_gc, .int .i64 c.size, .int .i64 c.load, .slice c_bA c.brakes.length c_bc, .slice c_hA c.heats.length c_hc, .bool c.hooks], .slice rA l.length rc, .int .i64 fr, .int .i64 g, .int .i64 ds] W fun e w' => e = .returned (.bool (f l)) ∧ Below W.heap.size W w') := fun W rA l rc hW hI hl => by
      have h := rComes_any n n_tA n_sA n_tc n_sc c c_gA c_bA c_hA c_gc c_bc c_hc rA l rc fr g ds W ((HN.out.below hW).more hW.size) ((HR.out.below hW).more hW.size) hI (by omega) hck hp0 d0 d5
      rw [← hf]
      exact h
    have HRB : Hid (Pl.rebuild n c fr g ds = Pl.fewestFrom (Pl.nums n.tracks.length) f (n.tracks.length + 1) 0) := by
      show _ = _
      rw [← hf]
      unfold Pl.rebuild Pl.fewest
      rw [nums_len]
    rw [hA] at HAS ⊢
    have HEV : Hid (∀ W, Calls Tryz.prog 65 #[.agg #[.int .i64 n.stops, .slice n_tA n.tracks.length n_tc, .slice n_sA n.shops.length n_sc]] W fun e w' => ∃ A cp, e = .returned (.slice A n.tracks.length cp) ∧ OwnInts w' W.heap.size A cp (Pl.nums n.tracks.length) ∧ Below W.heap.size W w') := fun W => revery_any n n_tA n_sA n_tc n_sc W ht8
    have HNL : Hid ((Pl.nums n.tracks.length).length = n.tracks.length) := nums_len _
    clear hck hp0 hA hf
    generalize Pl.rebuild n c fr g ds = RB at HRB ⊢
    go_enter Tryz.func26, Tryz.ntmps26
    go_upto_region 1 with fail
    rw [← HW2.out]
    go_upto_region 4 with (go_at_call 43; refine HAS.out.mono ?_; rintro e w5 ⟨rfl, hb5⟩; have HB5 := Lib.hid hb5; clear hb5 x0 x1 x2 y0 y1 y2 y3 y4 y5)
    go_wp2_with fail
    go_loopw [13] (fun mv wr => ∃ mm : Nat, mm ≤ n.tracks.length + 1 ∧ mv = .int .i64 mm ∧ Hid (RB = Pl.fewestFrom (Pl.nums n.tracks.length) f (n.tracks.length + 1 - mm) mm) ∧ Hid (Below w2.heap.size w2 wr)) (fun v _ => n.tracks.length + 1 - (intOf v).toNat)
    case atStart => exact ⟨0, Nat.zero_le _, rfl, HRB, HB5.out⟩
    case round =>
      obtain ⟨mm, hm, rfl, hF, hB⟩ := hrel
      clear HRB
      obtain ⟨⟨x0, x1, x2⟩, y0, y1, y2, y3, y4, y5⟩ := HKP.out _ hB.out
      by_cases hmt : mm ≤ n.tracks.length
      · have hmi : (mm : Int) ≤ (n.tracks.length : Int) := by omega
        have hws := hB.out.size
        go_wp2_with (first
          | (go_at_call 65; refine (HEV.out _).mono ?_; rintro e w6 ⟨A6, c6, rfl, ho6, hb6⟩; have HO6 := Lib.hid ho6; have HB6 := Lib.hid (hB.out.trans (hb6.mono hws)); clear ho6 hb6)
          | (go_at_call 47; refine (show Calls Tryz.prog 47 #[.slice A6 n.tracks.length c6, .int .i64 mm] w6 (RowsPost (Pl.lists (Pl.nums n.tracks.length) mm) w6) from (by
               have h := lists_any mm (Pl.nums n.tracks.length) A6 c6 w6 HO6.out.ints (by rw [HNL.out]; omega) (own_caps HO6.out).1 (own_caps HO6.out).2 (by omega)
               rw [HNL.out] at h
               exact h)).mono ?_; rintro e w7 ⟨A7, c7, rfl, ho7, hb7⟩; have HO7 := Lib.hid ho7; have HB7 := Lib.hid (HB6.out.trans (hb7.mono HB6.out.size)); have hs67 := HB6.out.size; clear ho7 hb7 x0 x1 x2 y0 y1 y2 y3 y4 y5))
        obtain ⟨LS, hLS⟩ : ∃ LS, Pl.lists (Pl.nums n.tracks.length) mm = LS := ⟨_, rfl⟩
        have HLSL : Hid (LS.length ≤ 1024) := by
          show _ ≤ _
          rw [← hLS]
          refine Nat.le_trans (lists_length _ _) ?_
          rw [HNL.out]
          exact Nat.le_trans (Nat.pow_le_pow_right (by omega) ht8) (by decide)
        have HAT : Hid (∀ i (hi : i < LS.length), (LS.drop i).find? f = LS.find? f → f LS[i] = true → RB = some LS[i]) := fun i hi hd hff => by
          subst hLS
          rw [hF.out, show n.tracks.length + 1 - mm = (n.tracks.length - mm) + 1 by omega]
          exact fewest_at2 hi hd hff
        have HON : Hid (∀ i (hi : i < LS.length), (LS.drop i).find? f = LS.find? f → f LS[i] = false → (LS.drop (i + 1)).find? f = LS.find? f) := fun i hi hd hff => by
          subst hLS
          exact fewest_on2 hi hd hff
        have HNX : Hid ((LS.drop LS.length).find? f = LS.find? f → RB = Pl.fewestFrom (Pl.nums n.tracks.length) f (n.tracks.length + 1 - (mm + 1)) (mm + 1)) := fun hd => by
          subst hLS
          rw [hF.out, show n.tracks.length + 1 - mm = (n.tracks.length + 1 - (mm + 1)) + 1 by omega]
          exact fewest_next2 hd
        rw [hLS] at HO7 ⊢
        clear hLS hF
        go_loopw [15] (fun iv wq => ∃ i : Nat, i ≤ LS.length ∧ iv = .int .i64 i ∧ Hid ((LS.drop i).find? f = LS.find? f) ∧ Hid (Below w7.heap.size w7 wq)) (fun v _ => LS.length - (intOf v).toNat)
        case atStart => exact ⟨0, Nat.zero_le _, rfl, rfl, Below.refl _ _⟩
        case round =>
          obtain ⟨i, hi, rfl, hD, hB8⟩ := hrel
          have HB9 := Lib.hid (HB7.out.trans (hB8.out.mono HB7.out.size))
          have hlsl := HLSL.out
          by_cases hil : i < LS.length
          · have hili : (i : Int) < (LS.length : Int) := by omega
            obtain ⟨rb, rA, rc, rfl, hrb0, hrb1, hrl, hrow⟩ := HO7.out.pick (List.getElem?_eq_getElem hil)
            obtain ⟨l, hl⟩ : ∃ l, LS[i] = l := ⟨_, rfl⟩
            rw [hl] at hrl hrow
            have HROW : Hid (∀ W, Below wr.heap.size wr W → W.cell? ⟨rb, i, none⟩ = some (.slice rA l.length rc) ∧ Ints W W.heap.size rA l) := fun W hW => by
              have hk : KeepIn w6.heap.size w7 W := (KeepIn.refl _ _).below (hB8.out.trans (hW.mono hB8.out.size)) (Nat.le_refl _)
              exact ⟨(hrow W hk).1, (hrow W hk).2.more hk.size⟩
            have HAT2 : Hid (f l = true → RB = some l) := fun h => by rw [← hl]; exact HAT.out i hil hD.out (by rw [hl]; exact h)
            have HON2 : Hid (f l = false → (LS.drop (i + 1)).find? f = LS.find? f) := fun h => HON.out i hil hD.out (by rw [hl]; exact h)
            have HSS : Hid (∀ W, Below wr.heap.size wr W → ((((W.cell? ⟨w.heap.size, 0, none⟩ = some (.int .i64 n.stops) ∧ W.cell? ⟨w.heap.size, 1, none⟩ = some (.slice n_tA n.tracks.length n_tc) ∧ W.cell? ⟨w.heap.size, 2, none⟩ = some (.slice n_sA n.shops.length n_sc)) ∧ (W.cell? ⟨w.heap.size + 1, 0, none⟩ = some (.slice c_gA c.gauges.length c_gc) ∧ W.cell? ⟨w.heap.size + 1, 1, none⟩ = some (.int .i64 c.size) ∧ W.cell? ⟨w.heap.size + 1, 2, none⟩ = some (.int .i64 c.load) ∧ W.cell? ⟨w.heap.size + 1, 3, none⟩ = some (.slice c_bA c.brakes.length c_bc) ∧ W.cell? ⟨w.heap.size + 1, 4, none⟩ = some (.slice c_hA c.heats.length c_hc) ∧ W.cell? ⟨w.heap.size + 1, 5, none⟩ = some (.bool c.hooks))) ∧ W.cell? ⟨rb, i, none⟩ = some (.slice rA l.length rc)))) := fun W hW =>
              ⟨HKP.out W (HB9.out.trans (hW.mono HB9.out.size)), (HROW.out W hW).1⟩
            have HW9 := Lib.hid (HB2.out.trans (HB9.out.mono HB2.out.size))
            have HRL := Lib.hid hrl
            clear hrow hl hrb0 hrl hD
            cases hfl : f l
            · have HD2 := Lib.hid (HON2.out hfl)
              go_wp2_with fail
              have hS := HSS.out _ (Below.refl _ _).drew
              go_region_held3 (fun W => ((((W.cell? ⟨w.heap.size, 0, none⟩ = some (.int .i64 n.stops) ∧ W.cell? ⟨w.heap.size, 1, none⟩ = some (.slice n_tA n.tracks.length n_tc) ∧ W.cell? ⟨w.heap.size, 2, none⟩ = some (.slice n_sA n.shops.length n_sc)) ∧ (W.cell? ⟨w.heap.size + 1, 0, none⟩ = some (.slice c_gA c.gauges.length c_gc) ∧ W.cell? ⟨w.heap.size + 1, 1, none⟩ = some (.int .i64 c.size) ∧ W.cell? ⟨w.heap.size + 1, 2, none⟩ = some (.int .i64 c.load) ∧ W.cell? ⟨w.heap.size + 1, 3, none⟩ = some (.slice c_bA c.brakes.length c_bc) ∧ W.cell? ⟨w.heap.size + 1, 4, none⟩ = some (.slice c_hA c.heats.length c_hc) ∧ W.cell? ⟨w.heap.size + 1, 5, none⟩ = some (.bool c.hooks))) ∧ W.cell? ⟨rb, i, none⟩ = some (.slice rA l.length rc))))
                (first | (with_reducible exact hS) | go_keep)
                (first | (go_at_call 66; refine (HC.out wr.drew rA l rc HW9.out.drew (HROW.out _ (Below.refl _ _).drew).2 HRL.out).mono ?_; rintro e u1 ⟨rfl, hb⟩; have hbw := (Below.refl wr.heap.size wr).drew.trans hb; have hS := HSS.out _ hbw; have HU := Lib.hid hbw; rw [hfl]; clear hb hbw))
              clear hS
              go_wp2_with fail
              go_roundw
              case rel => exact ⟨i + 1, by omega, by go_num, HD2, hB8.out.trans (HU.out.mono hB8.out.size)⟩
              case measure => simp [intOf]; omega
            · have HE := Lib.hid (HAT2.out hfl)
              go_wp2_with fail
              have hS := HSS.out _ (Below.refl _ _).drew
              go_region_held3 (fun W => ((((W.cell? ⟨w.heap.size, 0, none⟩ = some (.int .i64 n.stops) ∧ W.cell? ⟨w.heap.size, 1, none⟩ = some (.slice n_tA n.tracks.length n_tc) ∧ W.cell? ⟨w.heap.size, 2, none⟩ = some (.slice n_sA n.shops.length n_sc)) ∧ (W.cell? ⟨w.heap.size + 1, 0, none⟩ = some (.slice c_gA c.gauges.length c_gc) ∧ W.cell? ⟨w.heap.size + 1, 1, none⟩ = some (.int .i64 c.size) ∧ W.cell? ⟨w.heap.size + 1, 2, none⟩ = some (.int .i64 c.load) ∧ W.cell? ⟨w.heap.size + 1, 3, none⟩ = some (.slice c_bA c.brakes.length c_bc) ∧ W.cell? ⟨w.heap.size + 1, 4, none⟩ = some (.slice c_hA c.heats.length c_hc) ∧ W.cell? ⟨w.heap.size + 1, 5, none⟩ = some (.bool c.hooks))) ∧ W.cell? ⟨rb, i, none⟩ = some (.slice rA l.length rc))))
                (first | (with_reducible exact hS) | go_keep)
                (first | (go_at_call 66; refine (HC.out wr.drew rA l rc HW9.out.drew (HROW.out _ (Below.refl _ _).drew).2 HRL.out).mono ?_; rintro e u1 ⟨rfl, hb⟩; have hbw := (Below.refl wr.heap.size wr).drew.trans hb; have hS := HSS.out _ hbw; have HU := Lib.hid hbw; rw [hfl]; clear hb hbw))
              clear hS
              obtain ⟨z0, hz⟩ := HROW.out _ HU.out
              have HZ := Lib.hid hz
              clear hz
              go_wp2_with fail
              go_ret2
              exact ⟨rA, _, rc, 0, rfl, HW9.out.trans (HU.out.mono HW9.out.size), fun h => absurd rfl h, (fun _ h => by rw [HE.out] at h; cases h), (fun l2 _ h => by rw [HE.out] at h; injection h with h; subst h; exact ⟨rfl, rfl, HZ.out⟩)⟩
          · obtain rfl : i = LS.length := by omega
            have hilf : decide ((LS.length : Int) < (LS.length : Int)) = false := by simp
            have HN2 := Lib.hid (HNX.out hD.out)
            clear hD
            go_wp2_with fail
            go_roundw
            case rel => exact ⟨mm + 1, by omega, by go_num, HN2, HB9.out⟩
            case measure => simp [intOf]; omega
      · obtain rfl : mm = n.tracks.length + 1 := by omega
        have hmi : decide (((n.tracks.length + 1 : Nat) : Int) ≤ (n.tracks.length : Int)) = false := decide_eq_false (by omega)
        have HE : Hid (RB = none) := by
          show _ = _
          rw [hF.out, Nat.sub_self]
          rfl
        clear hF hmt
        go_wp2_with fail
        go_ret2
        rw [HE.out]
        exact listPost_none (HB2.out.trans (hB.out.mono HB2.out.size))
  · have hq : (Pl.asked n c fr g ds != 0) = true := by rw [bne_iff_ne]; exact hA
    have HA : Hid (Pl.asked n c fr g ds ≠ 0) := hA
    generalize Pl.rebuild n c fr g ds = R
    generalize Pl.asked n c fr g ds = q at hA hq HA HAS
    clear hA
    go_enter Tryz.func26, Tryz.ntmps26
    go_upto_region 1 with fail
    rw [← HW2.out]
    go_wp2_with (go_at_call 43; refine HAS.out.mono ?_; rintro e w5 ⟨rfl, hb5⟩; have HB5 := Lib.hid hb5; clear hb5 x0 x1 x2 y0 y1 y2 y3 y4 y5)
    go_ret2
    exact listPost_asked HA.out (HB2.out.trans (HB5.out.mono HB2.out.size))
end Go.Proofs.YtpbjpochjagicaaGreat
