/- Walks: LineHeaviest (by gen_law12.py). -/
import Derived.Test.YtpbjpochjagicaaW48
import Derived.Test.YtpbjpochjagicaaW49
import Derived.Test.YtpbjpochjagicaaW34
import Derived.BigQuiet
namespace Go.Proofs.Ytpbjpochjagicaa
open Go.RowKit

set_option maxRecDepth 20000 in
set_option maxHeartbeats 40000000 in
theorem law12 (A : Option Addr) (cp : Nat) (xs : List Int) (w : World) (hx : Ints w w.heap.size A xs) (hl : xs.length ≤ 9223372036854775807) :
    Calls Try.prog 12 #[.slice A xs.length cp] w fun e w' => e = .returned (.bool true) ∧ Below w.heap.size w w' := by
  go_enter Try.func12, Try.ntmps12
  go_wp2_with fail
  refine (newBag_any A cp xs w hx hl).mono ?_
  rintro e w1 ⟨g, rfl, hgw, hb1, hB1⟩
  have HB1 := Lib.hid hB1
  have hg1 := hb1.lt
  go_wp2_with fail
  refine (netOf_any g 5 7 w1 hb1 (by omega) (by omega) (by omega) (by omega)).mono ?_
  rintro e w2 ⟨n, n_tA, n_sA, n_tc, n_sc, rfl, htr, hsh, hn, k12⟩
  have Htr := Lib.hid htr
  have Hsh := Lib.hid hsh
  have Hn := Lib.hid hn
  have K12 := Lib.hid k12
  have b2 := k12.bag
  clear htr hsh hn k12 hB1 hx
  go_wp2_with fail
  refine (coach_any g w2 b2).mono ?_
  rintro e w3 ⟨c, c_gA, c_bA, c_hA, c_gc, c_bc, c_hc, rfl, hga, hbr, hhe, hc, k23⟩
  have Hga := Lib.hid hga
  have Hbr := Lib.hid hbr
  have Hhe := Lib.hid hhe
  have Hc := Lib.hid hc
  have K23 := Lib.hid k23
  clear hga hbr hhe hc k23
  go_wp2_with fail
  have hNb := blk_alloc (heap_alloc_new w3 (.cells #[.int .i64 n.stops, .slice n_tA n.tracks.length n_tc, .slice n_sA n.shops.length n_sc] 27)) (.cells #[.slice c_gA c.gauges.length c_gc, .int .i64 c.size, .int .i64 c.load, .slice c_bA c.brakes.length c_bc, .slice c_hA c.heats.length c_hc, .bool c.hooks] 30)
  have hCb : ((w3.alloc (.cells #[.int .i64 n.stops, .slice n_tA n.tracks.length n_tc, .slice n_sA n.shops.length n_sc] 27)).alloc (.cells #[.slice c_gA c.gauges.length c_gc, .int .i64 c.size, .int .i64 c.load, .slice c_bA c.brakes.length c_bc, .slice c_hA c.heats.length c_hc, .bool c.hooks] 30)).heap[w3.heap.size + 1]? = some (.cells #[.slice c_gA c.gauges.length c_gc, .int .i64 c.size, .int .i64 c.load, .slice c_bA c.brakes.length c_bc, .slice c_hA c.heats.length c_hc, .bool c.hooks] 30 (0, 0)) := by
    have := heap_alloc_new (w3.alloc (.cells #[.int .i64 n.stops, .slice n_tA n.tracks.length n_tc, .slice n_sA n.shops.length n_sc] 27)) (.cells #[.slice c_gA c.gauges.length c_gc, .int .i64 c.size, .int .i64 c.load, .slice c_bA c.brakes.length c_bc, .slice c_hA c.heats.length c_hc, .bool c.hooks] 30)
    simpa using this
  have hb34 : Below w3.heap.size w3 ((w3.alloc (.cells #[.int .i64 n.stops, .slice n_tA n.tracks.length n_tc, .slice n_sA n.shops.length n_sc] 27)).alloc (.cells #[.slice c_gA c.gauges.length c_gc, .int .i64 c.size, .int .i64 c.load, .slice c_bA c.brakes.length c_bc, .slice c_hA c.heats.length c_hc, .bool c.hooks] 30)) := ((Below.refl _ _).alloc (Nat.le_refl _) _).alloc (by simp) _
  have hD := dealt_of n n_tA n_sA n_tc n_sc c c_gA c_bA c_hA c_gc c_bc c_hc hg1 Htr.out Hsh.out Hn.out (by omega) (by omega) K12.out Hga.out Hbr.out Hhe.out Hc.out K23.out hb34 hNb hCb (Nat.le_refl _) (by omega)
  have hW4 : Below w.heap.size w ((w3.alloc (.cells #[.int .i64 n.stops, .slice n_tA n.tracks.length n_tc, .slice n_sA n.shops.length n_sc] 27)).alloc (.cells #[.slice c_gA c.gauges.length c_gc, .int .i64 c.size, .int .i64 c.load, .slice c_bA c.brakes.length c_bc, .slice c_hA c.heats.length c_hc, .bool c.hooks] 30)) := by
    have hs12 := K12.out.size
    have hs23 := K23.out.size
    have hs1 := HB1.out.size
    exact ((HB1.out.trans (K12.out.below hgw hg1)).trans (K23.out.below hgw (by omega))).trans (hb34.mono (by omega))
  clear Htr Hsh Hn K12 Hga Hbr Hhe Hc K23 hb34 hNb hCb b2 HB1
  generalize hQ : w3.heap.size + 1 = Q at hD ⊢
  generalize (w3.alloc (.cells #[.int .i64 n.stops, .slice n_tA n.tracks.length n_tc, .slice n_sA n.shops.length n_sc] 27)).alloc (.cells #[.slice c_gA c.gauges.length c_gc, .int .i64 c.size, .int .i64 c.load, .slice c_bA c.brakes.length c_bc, .slice c_hA c.heats.length c_hc, .bool c.hooks] 30) = w4 at hD hW4 ⊢
  generalize w3.heap.size = P at hD ⊢
  clear hQ
  have HW4 := Lib.hid hW4
  clear hW4
  obtain ⟨gb, hgA, hgb⟩ := hD.gauges
  subst hgA
  have D0 := Lib.hid hD
  have hst1 := hD.st
  have hst6 := hD.st6
  have hng := hD.ng
  have hlg := hD.lg
  have hP := lt_of_block hD.b4
  have hQ := lt_of_block hD.b5
  have hS : w4.drew.cell? ⟨P, 0, none⟩ = some (.int .i64 n.stops) ∧ w4.drew.cell? ⟨Q, 0, none⟩ = some (.slice (some ⟨gb, 0, none⟩) c.gauges.length c_gc) := ⟨hD.drew.ncells.1, hD.drew.ccells.1⟩
  have HW := Lib.hid (IntWalk.i64_in (n.stops - 1) ⟨by omega, by omega⟩)
  clear hD
  go_region_held3 (fun w' => w'.cell? ⟨P, 0, none⟩ = some (.int .i64 n.stops) ∧ w'.cell? ⟨Q, 0, none⟩ = some (.slice (some ⟨gb, 0, none⟩) c.gauges.length c_gc))
    (first | go_keep | exact hS)
    (first
      | (go_at_call 18; rw [HW.out]; refine (up_any g _ _ D0.out.drew.bag (by omega)).mono ?_; rintro e w5 ⟨fr, rfl, hf0, hf1, hB5⟩; have D5 := Lib.hid (D0.out.drew.bagged hB5); have HB5 := Lib.hid hB5; clear hB5; have hS := And.intro D5.out.ncells.1 D5.out.ccells.1)
      | (go_at_call 19; refine (one_any g gb 0 _ c.gauges _ D5.out.bag D5.out.ga.ints hgb hng (by omega)).mono ?_; rintro e w6 ⟨ga, rfl, hgm, hB6⟩; have D6 := Lib.hid (D5.out.bagged hB6); have HB6 := Lib.hid hB6; clear hB6; have hS := And.intro D6.out.ncells.1 D6.out.ccells.1)
      | (go_at_call 18; refine (up_any g _ _ D6.out.bag (by omega)).mono ?_; rintro e w7 ⟨ds, rfl, hd0, hd1, hB7⟩; have D7 := Lib.hid (D6.out.bagged hB7); have HB7 := Lib.hid hB7; clear hB7; have hS := And.intro D7.out.ncells.1 D7.out.ccells.1))
  have HW7 := Lib.hid (HW4.out.trans ((((((Kb.refl D0.out.bag).drew.bagged HB5.out).bagged HB6.out)).bagged HB7.out).below hgw D0.out.bag.lt))
  clear HW4 HB5 HB6 HB7 hS
  have HA := Lib.hid (D7.out.asked hf0 (by omega) hgm hd0 (by omega))
  have HQ := Lib.hid (D7.out.question hf0 (show fr ≤ n.stops - 1 by omega) hgm)
  have hnc := D7.out.ncells
  have hcc := D7.out.ccells
  obtain ⟨z0, z1, z2⟩ := hnc
  obtain ⟨x0, x1, x2, x3, x4, x5⟩ := hcc
  go_wp2_with fail
  refine (heaviest_any n n_tA n_sA n_tc n_sc c (some ⟨gb, 0, none⟩) c_bA c_hA c_gc c_bc c_hc fr ga ds w7 D7.out.nreads D7.out.creads).mono ?_
  rintro e w8 ⟨rfl, hb8⟩
  have D8 := Lib.hid (D7.out.below hb8)
  have HW8 := Lib.hid (HW7.out.trans (hb8.mono HW7.out.size))
  clear z0 z1 z2 x0 x1 x2 x3 x4 x5 hb8 HW7 D7
  have HF1 := Lib.hid (fun x (h1 : 1 ≤ x) (h2 : x ≤ 20) => heavy_iff HA.out h1 h2)
  have HF2 := Lib.hid (fun x (h1 : 1 ≤ x) (h2 : x ≤ 9) => large_iff HA.out h1 h2)
  have hin1 := greatest_in (fun x => Pl.comes n { c with load := x } [] (fr, ga) ds) 20
  have hin2 := greatest_in (fun x => Pl.comes n { c with size := x } [] (fr, ga) ds) 9
  have e1 : heavyVal n c fr ga ds = greatVal (heaviest n c fr ga ds) := by rw [heavyVal, if_neg (by simp [HA.out])]
  have e2 : largeVal n c fr ga ds = greatVal (Pl.largest n c fr ga ds) := by rw [largeVal, if_neg (by simp [HA.out])]
  have E2 := Lib.hid e2
  rw [e1]
  clear e1 e2
  change 0 ≤ heaviest n c fr ga ds ∧ heaviest n c fr ga ds ≤ (20 : Nat) at hin1
  change 0 ≤ Pl.largest n c fr ga ds ∧ Pl.largest n c fr ga ds ≤ (9 : Nat) at hin2
  generalize heaviest n c fr ga ds = m1 at *
  generalize Pl.largest n c fr ga ds = m2 at *
  obtain ⟨v1, hv1, hv1'⟩ : ∃ v1, greatVal m1 = .tuple #[.int .i64 m1, .int .i64 v1] ∧ v1 = if m1 = 0 then 11 else 0 := ⟨_, rfl, rfl⟩
  obtain ⟨v2, hv2, hv2'⟩ : ∃ v2, greatVal m2 = .tuple #[.int .i64 m2, .int .i64 v2] ∧ v2 = if m2 = 0 then 11 else 0 := ⟨_, rfl, rfl⟩
  rw [hv1]
  have HV2 := Lib.hid (E2.out.trans hv2)
  have Hv1' := Lib.hid hv1'
  have Hv2' := Lib.hid hv2'
  have h10 : 0 ≤ m1 := hin1.1
  have h11 : m1 ≤ 20 := hin1.2
  have h20 : 0 ≤ m2 := hin2.1
  have h21 : m2 ≤ 9 := hin2.2
  clear hv1 hv2 hin1 hin2 E2 hv1' hv2'
  have hnc := D8.out.ncells
  have hcc := D8.out.ccells
  obtain ⟨z0, z1, z2⟩ := hnc
  obtain ⟨x0, x1, x2, x3, x4, x5⟩ := hcc
  go_wp2_with fail
  refine (largest_any n n_tA n_sA n_tc n_sc c (some ⟨gb, 0, none⟩) c_bA c_hA c_gc c_bc c_hc fr ga ds w8 D8.out.nreads D8.out.creads).mono ?_
  rintro e w9 ⟨rfl, hb9⟩
  rw [HV2.out]
  have D9 := Lib.hid (D8.out.below hb9)
  have HW9 := Lib.hid (HW8.out.trans (hb9.mono HW8.out.size))
  clear z0 z1 z2 x0 x1 x2 x3 x4 x5 hb9 HW8 D8 HV2
  by_cases hz1 : m1 = 0
  · by_cases hz2 : m2 = 0
    · obtain rfl : v1 = 11 := by rw [Hv1'.out, if_pos hz1]
      obtain rfl : v2 = 11 := by rw [Hv2'.out, if_pos hz2]
      clear Hv1' Hv2'
      subst hz1
      subst hz2
      go_wp2_with fail
      go_loopw [13] (fun iv wr => ∃ k : Nat, 1 ≤ k ∧ k ≤ 21 ∧ iv = .int .i64 k ∧ Hid (Below w9.heap.size w9 wr)) (fun i _ => (21 - intOf i).toNat)
      case atStart => exact ⟨1, by omega, by omega, rfl, Below.refl _ _⟩
      case round =>
        obtain ⟨k, hk1, hk2, rfl, hB⟩ := hrel
        have Dr := Lib.hid (D9.out.below hB.out)
        have HWr := Lib.hid (HW9.out.trans (hB.out.mono HW9.out.size))
        by_cases hkl : k ≤ 20
        · have hkk : (k : Int) ≤ 20 := by omega
          have hkp : (1 : Int) ≤ (k : Int) := by omega
          have hiff := HF1.out k hkp hkk
          have HI := Lib.hid hiff
          have HQk := Lib.hid (question_load HQ.out hkp hkk)
          have hlg3 := Dr.out.lg
          have hlb3 := Dr.out.lb
          have hlh3 := Dr.out.lh
          have hsr := hB.out.size
          clear hiff
          have hnc := Dr.out.ncells
          have hcc := Dr.out.ccells
          obtain ⟨z0, z1, z2⟩ := hnc
          obtain ⟨x0, x1, x2, x3, x4, x5⟩ := hcc
          go_wp2_with fail
          refine (copyCoach_any c (some ⟨gb, 0, none⟩) c_bA c_hA c_gc c_bc c_hc wr Dr.out.creads (by omega) (by omega) (by omega)).mono ?_
          rintro e wa ⟨d_gA, d_bA, d_hA, d_gc, d_bc, d_hc, rfl, hrd, hba⟩
          have Da := Lib.hid (Dr.out.below hba)
          have HRD := Lib.hid hrd
          have HBA := Lib.hid (hB.out.trans (hba.mono hsr))
          have hsa := hba.size
          clear hrd hba z0 z1 z2 x0 x1 x2 x3 x4 x5 Dr
          have hnc := Da.out.ncells
          have hcc := Da.out.ccells
          obtain ⟨z0, z1, z2⟩ := hnc
          obtain ⟨x0, x1, x2, x3, x4, x5⟩ := hcc
          have hPa := lt_of_block Da.out.b4
          have hQa := lt_of_block Da.out.b5
          go_wp2_with fail
          refine (kcomes_any n n_tA n_sA n_tc n_sc { c with load := (k : Int) } d_gA d_bA d_hA d_gc d_bc d_hc fr ga ds _ ((Da.out.nreads.alloc (Nat.le_refl _) _).more (by simp)) (by exact ⟨(HRD.out.gauges.alloc (Nat.le_refl _) _).more (by simp), (HRD.out.brakes.alloc (Nat.le_refl _) _).more (by simp), (HRD.out.heats.alloc (Nat.le_refl _) _).more (by simp), HRD.out.lenG, HRD.out.lenB, HRD.out.lenH⟩) HQk.out).mono ?_
          rintro e wb ⟨rfl, hbb⟩
          have HBB := Lib.hid ((HBA.out.alloc HBA.out.size _).trans (hbb.mono (by have := HBA.out.size; simp; omega)))
          rw [HI.out]
          clear hbb HI z0 z1 z2 x0 x1 x2 x3 x4 x5 hPa hQa HRD HBA
          have hd : decide ((k : Int) ≤ 0) = false := by simp; omega
          rw [hd]
          clear hd
          go_wp2_with fail
          go_roundw
          case rel => exact ⟨k + 1, by omega, by omega, by go_num, HBB⟩
          case measure => simp [intOf]; omega
        · obtain rfl : k = 21 := by omega
          have hkk : ¬ ((21 : Int) ≤ 20) := by omega
          clear hB
          generalize hwv : wr = wv at Dr HWr ⊢
          have Dv := Dr
          have HWv := HWr
          clear hwv Dr HWr hkk
          rw [show ((21 : Nat) : Int) = 21 from rfl]
          go_wp2_with fail
          go_loopw [17] (fun iv wr => ∃ k : Nat, 1 ≤ k ∧ k ≤ 10 ∧ iv = .int .i64 k ∧ Hid (Below wv.heap.size wv wr)) (fun i _ => (10 - intOf i).toNat)
          case atStart => exact ⟨1, by omega, by omega, rfl, Below.refl _ _⟩
          case round =>
            obtain ⟨k, hk1, hk2, rfl, hB⟩ := hrel
            have Dr := Lib.hid (Dv.out.below hB.out)
            have HWr := Lib.hid (HWv.out.trans (hB.out.mono HWv.out.size))
            by_cases hkl : k ≤ 9
            · have hkk : (k : Int) ≤ 9 := by omega
              have hkp : (1 : Int) ≤ (k : Int) := by omega
              have hiff := HF2.out k hkp hkk
              have HI := Lib.hid hiff
              have HQk := Lib.hid (question_size HQ.out hkp hkk)
              have hlg3 := Dr.out.lg
              have hlb3 := Dr.out.lb
              have hlh3 := Dr.out.lh
              have hsr := hB.out.size
              clear hiff
              have hnc := Dr.out.ncells
              have hcc := Dr.out.ccells
              obtain ⟨z0, z1, z2⟩ := hnc
              obtain ⟨x0, x1, x2, x3, x4, x5⟩ := hcc
              go_wp2_with fail
              refine (copyCoach_any c (some ⟨gb, 0, none⟩) c_bA c_hA c_gc c_bc c_hc wr Dr.out.creads (by omega) (by omega) (by omega)).mono ?_
              rintro e wa ⟨d_gA, d_bA, d_hA, d_gc, d_bc, d_hc, rfl, hrd, hba⟩
              have Da := Lib.hid (Dr.out.below hba)
              have HRD := Lib.hid hrd
              have HBA := Lib.hid (hB.out.trans (hba.mono hsr))
              have hsa := hba.size
              clear hrd hba z0 z1 z2 x0 x1 x2 x3 x4 x5 Dr
              have hnc := Da.out.ncells
              have hcc := Da.out.ccells
              obtain ⟨z0, z1, z2⟩ := hnc
              obtain ⟨x0, x1, x2, x3, x4, x5⟩ := hcc
              have hPa := lt_of_block Da.out.b4
              have hQa := lt_of_block Da.out.b5
              go_wp2_with fail
              refine (kcomes_any n n_tA n_sA n_tc n_sc { c with size := (k : Int) } d_gA d_bA d_hA d_gc d_bc d_hc fr ga ds _ ((Da.out.nreads.alloc (Nat.le_refl _) _).more (by simp)) (by exact ⟨(HRD.out.gauges.alloc (Nat.le_refl _) _).more (by simp), (HRD.out.brakes.alloc (Nat.le_refl _) _).more (by simp), (HRD.out.heats.alloc (Nat.le_refl _) _).more (by simp), HRD.out.lenG, HRD.out.lenB, HRD.out.lenH⟩) HQk.out).mono ?_
              rintro e wb ⟨rfl, hbb⟩
              have HBB := Lib.hid ((HBA.out.alloc HBA.out.size _).trans (hbb.mono (by have := HBA.out.size; simp; omega)))
              rw [HI.out]
              clear hbb HI z0 z1 z2 x0 x1 x2 x3 x4 x5 hPa hQa HRD HBA
              have hd : decide ((k : Int) ≤ 0) = false := by simp; omega
              rw [hd]
              clear hd
              go_wp2_with fail
              go_roundw
              case rel => exact ⟨k + 1, by omega, by omega, by go_num, HBB⟩
              case measure => simp [intOf]; omega
            · obtain rfl : k = 10 := by omega
              have hkk : ¬ ((10 : Int) ≤ 9) := by omega
              clear hB
              go_wp2_with (go_at_call 25; refine (rolling_any _).mono ?_; rintro e w15 ⟨rfl, hb15⟩)
              go_ret
              exact ⟨rfl, HWr.out.trans (hb15.mono HWr.out.size)⟩
    · obtain rfl : v1 = 11 := by rw [Hv1'.out, if_pos hz1]
      obtain rfl : v2 = 0 := by rw [Hv2'.out, if_neg hz2]
      have h22 : 1 ≤ m2 := by omega
      clear Hv1' Hv2'
      subst hz1
      clear hz2
      have d2a : decide (m2 < 1) = false := by simp; omega
      have d2b : decide (9 < m2) = false := by simp; omega
      have d2c : ¬ m2 < 1 := by omega
      have d2d : ¬ 9 < m2 := by omega
      go_wp2_with fail
      clear d2a d2b d2c d2d
      go_loopw [13] (fun iv wr => ∃ k : Nat, 1 ≤ k ∧ k ≤ 21 ∧ iv = .int .i64 k ∧ Hid (Below w9.heap.size w9 wr)) (fun i _ => (21 - intOf i).toNat)
      case atStart => exact ⟨1, by omega, by omega, rfl, Below.refl _ _⟩
      case round =>
        obtain ⟨k, hk1, hk2, rfl, hB⟩ := hrel
        have Dr := Lib.hid (D9.out.below hB.out)
        have HWr := Lib.hid (HW9.out.trans (hB.out.mono HW9.out.size))
        by_cases hkl : k ≤ 20
        · have hkk : (k : Int) ≤ 20 := by omega
          have hkp : (1 : Int) ≤ (k : Int) := by omega
          have hiff := HF1.out k hkp hkk
          have HI := Lib.hid hiff
          have HQk := Lib.hid (question_load HQ.out hkp hkk)
          have hlg3 := Dr.out.lg
          have hlb3 := Dr.out.lb
          have hlh3 := Dr.out.lh
          have hsr := hB.out.size
          clear hiff
          have hnc := Dr.out.ncells
          have hcc := Dr.out.ccells
          obtain ⟨z0, z1, z2⟩ := hnc
          obtain ⟨x0, x1, x2, x3, x4, x5⟩ := hcc
          go_wp2_with fail
          refine (copyCoach_any c (some ⟨gb, 0, none⟩) c_bA c_hA c_gc c_bc c_hc wr Dr.out.creads (by omega) (by omega) (by omega)).mono ?_
          rintro e wa ⟨d_gA, d_bA, d_hA, d_gc, d_bc, d_hc, rfl, hrd, hba⟩
          have Da := Lib.hid (Dr.out.below hba)
          have HRD := Lib.hid hrd
          have HBA := Lib.hid (hB.out.trans (hba.mono hsr))
          have hsa := hba.size
          clear hrd hba z0 z1 z2 x0 x1 x2 x3 x4 x5 Dr
          have hnc := Da.out.ncells
          have hcc := Da.out.ccells
          obtain ⟨z0, z1, z2⟩ := hnc
          obtain ⟨x0, x1, x2, x3, x4, x5⟩ := hcc
          have hPa := lt_of_block Da.out.b4
          have hQa := lt_of_block Da.out.b5
          go_wp2_with fail
          refine (kcomes_any n n_tA n_sA n_tc n_sc { c with load := (k : Int) } d_gA d_bA d_hA d_gc d_bc d_hc fr ga ds _ ((Da.out.nreads.alloc (Nat.le_refl _) _).more (by simp)) (by exact ⟨(HRD.out.gauges.alloc (Nat.le_refl _) _).more (by simp), (HRD.out.brakes.alloc (Nat.le_refl _) _).more (by simp), (HRD.out.heats.alloc (Nat.le_refl _) _).more (by simp), HRD.out.lenG, HRD.out.lenB, HRD.out.lenH⟩) HQk.out).mono ?_
          rintro e wb ⟨rfl, hbb⟩
          have HBB := Lib.hid ((HBA.out.alloc HBA.out.size _).trans (hbb.mono (by have := HBA.out.size; simp; omega)))
          rw [HI.out]
          clear hbb HI z0 z1 z2 x0 x1 x2 x3 x4 x5 hPa hQa HRD HBA
          have hd : decide ((k : Int) ≤ 0) = false := by simp; omega
          rw [hd]
          clear hd
          go_wp2_with fail
          go_roundw
          case rel => exact ⟨k + 1, by omega, by omega, by go_num, HBB⟩
          case measure => simp [intOf]; omega
        · obtain rfl : k = 21 := by omega
          have hkk : ¬ ((21 : Int) ≤ 20) := by omega
          clear hB
          generalize hwv : wr = wv at Dr HWr ⊢
          have Dv := Dr
          have HWv := HWr
          clear hwv Dr HWr hkk
          rw [show ((21 : Nat) : Int) = 21 from rfl]
          go_wp2_with fail
          go_loopw [17] (fun iv wr => ∃ k : Nat, 1 ≤ k ∧ k ≤ 10 ∧ iv = .int .i64 k ∧ Hid (Below wv.heap.size wv wr)) (fun i _ => (10 - intOf i).toNat)
          case atStart => exact ⟨1, by omega, by omega, rfl, Below.refl _ _⟩
          case round =>
            obtain ⟨k, hk1, hk2, rfl, hB⟩ := hrel
            have Dr := Lib.hid (Dv.out.below hB.out)
            have HWr := Lib.hid (HWv.out.trans (hB.out.mono HWv.out.size))
            by_cases hkl : k ≤ 9
            · have hkk : (k : Int) ≤ 9 := by omega
              have hkp : (1 : Int) ≤ (k : Int) := by omega
              have hiff := HF2.out k hkp hkk
              have HI := Lib.hid hiff
              have HQk := Lib.hid (question_size HQ.out hkp hkk)
              have hlg3 := Dr.out.lg
              have hlb3 := Dr.out.lb
              have hlh3 := Dr.out.lh
              have hsr := hB.out.size
              clear hiff
              have hnc := Dr.out.ncells
              have hcc := Dr.out.ccells
              obtain ⟨z0, z1, z2⟩ := hnc
              obtain ⟨x0, x1, x2, x3, x4, x5⟩ := hcc
              go_wp2_with fail
              refine (copyCoach_any c (some ⟨gb, 0, none⟩) c_bA c_hA c_gc c_bc c_hc wr Dr.out.creads (by omega) (by omega) (by omega)).mono ?_
              rintro e wa ⟨d_gA, d_bA, d_hA, d_gc, d_bc, d_hc, rfl, hrd, hba⟩
              have Da := Lib.hid (Dr.out.below hba)
              have HRD := Lib.hid hrd
              have HBA := Lib.hid (hB.out.trans (hba.mono hsr))
              have hsa := hba.size
              clear hrd hba z0 z1 z2 x0 x1 x2 x3 x4 x5 Dr
              have hnc := Da.out.ncells
              have hcc := Da.out.ccells
              obtain ⟨z0, z1, z2⟩ := hnc
              obtain ⟨x0, x1, x2, x3, x4, x5⟩ := hcc
              have hPa := lt_of_block Da.out.b4
              have hQa := lt_of_block Da.out.b5
              go_wp2_with fail
              refine (kcomes_any n n_tA n_sA n_tc n_sc { c with size := (k : Int) } d_gA d_bA d_hA d_gc d_bc d_hc fr ga ds _ ((Da.out.nreads.alloc (Nat.le_refl _) _).more (by simp)) (by exact ⟨(HRD.out.gauges.alloc (Nat.le_refl _) _).more (by simp), (HRD.out.brakes.alloc (Nat.le_refl _) _).more (by simp), (HRD.out.heats.alloc (Nat.le_refl _) _).more (by simp), HRD.out.lenG, HRD.out.lenB, HRD.out.lenH⟩) HQk.out).mono ?_
              rintro e wb ⟨rfl, hbb⟩
              have HBB := Lib.hid ((HBA.out.alloc HBA.out.size _).trans (hbb.mono (by have := HBA.out.size; simp; omega)))
              rw [HI.out]
              clear hbb HI z0 z1 z2 x0 x1 x2 x3 x4 x5 hPa hQa HRD HBA
              by_cases hkm : (k : Int) ≤ m2
              · have hd : decide ((k : Int) ≤ m2) = true := decide_eq_true hkm
                rw [hd]
                clear hd
                go_wp2_with fail
                go_roundw
                case rel => exact ⟨k + 1, by omega, by omega, by go_num, HBB⟩
                case measure => simp [intOf]; omega
              · have hd : decide ((k : Int) ≤ m2) = false := decide_eq_false hkm
                rw [hd]
                clear hd
                go_wp2_with fail
                go_roundw
                case rel => exact ⟨k + 1, by omega, by omega, by go_num, HBB⟩
                case measure => simp [intOf]; omega
            · obtain rfl : k = 10 := by omega
              have hkk : ¬ ((10 : Int) ≤ 9) := by omega
              clear hB
              go_wp2_with (go_at_call 25; refine (rolling_any _).mono ?_; rintro e w15 ⟨rfl, hb15⟩)
              go_ret
              exact ⟨rfl, HWr.out.trans (hb15.mono HWr.out.size)⟩
  · by_cases hz2 : m2 = 0
    · obtain rfl : v1 = 0 := by rw [Hv1'.out, if_neg hz1]
      have h12 : 1 ≤ m1 := by omega
      obtain rfl : v2 = 11 := by rw [Hv2'.out, if_pos hz2]
      clear Hv1' Hv2'
      clear hz1
      subst hz2
      have d1a : decide (m1 < 1) = false := by simp; omega
      have d1b : decide (20 < m1) = false := by simp; omega
      have d1c : ¬ m1 < 1 := by omega
      have d1d : ¬ 20 < m1 := by omega
      go_wp2_with fail
      clear d1a d1b d1c d1d
      go_loopw [13] (fun iv wr => ∃ k : Nat, 1 ≤ k ∧ k ≤ 21 ∧ iv = .int .i64 k ∧ Hid (Below w9.heap.size w9 wr)) (fun i _ => (21 - intOf i).toNat)
      case atStart => exact ⟨1, by omega, by omega, rfl, Below.refl _ _⟩
      case round =>
        obtain ⟨k, hk1, hk2, rfl, hB⟩ := hrel
        have Dr := Lib.hid (D9.out.below hB.out)
        have HWr := Lib.hid (HW9.out.trans (hB.out.mono HW9.out.size))
        by_cases hkl : k ≤ 20
        · have hkk : (k : Int) ≤ 20 := by omega
          have hkp : (1 : Int) ≤ (k : Int) := by omega
          have hiff := HF1.out k hkp hkk
          have HI := Lib.hid hiff
          have HQk := Lib.hid (question_load HQ.out hkp hkk)
          have hlg3 := Dr.out.lg
          have hlb3 := Dr.out.lb
          have hlh3 := Dr.out.lh
          have hsr := hB.out.size
          clear hiff
          have hnc := Dr.out.ncells
          have hcc := Dr.out.ccells
          obtain ⟨z0, z1, z2⟩ := hnc
          obtain ⟨x0, x1, x2, x3, x4, x5⟩ := hcc
          go_wp2_with fail
          refine (copyCoach_any c (some ⟨gb, 0, none⟩) c_bA c_hA c_gc c_bc c_hc wr Dr.out.creads (by omega) (by omega) (by omega)).mono ?_
          rintro e wa ⟨d_gA, d_bA, d_hA, d_gc, d_bc, d_hc, rfl, hrd, hba⟩
          have Da := Lib.hid (Dr.out.below hba)
          have HRD := Lib.hid hrd
          have HBA := Lib.hid (hB.out.trans (hba.mono hsr))
          have hsa := hba.size
          clear hrd hba z0 z1 z2 x0 x1 x2 x3 x4 x5 Dr
          have hnc := Da.out.ncells
          have hcc := Da.out.ccells
          obtain ⟨z0, z1, z2⟩ := hnc
          obtain ⟨x0, x1, x2, x3, x4, x5⟩ := hcc
          have hPa := lt_of_block Da.out.b4
          have hQa := lt_of_block Da.out.b5
          go_wp2_with fail
          refine (kcomes_any n n_tA n_sA n_tc n_sc { c with load := (k : Int) } d_gA d_bA d_hA d_gc d_bc d_hc fr ga ds _ ((Da.out.nreads.alloc (Nat.le_refl _) _).more (by simp)) (by exact ⟨(HRD.out.gauges.alloc (Nat.le_refl _) _).more (by simp), (HRD.out.brakes.alloc (Nat.le_refl _) _).more (by simp), (HRD.out.heats.alloc (Nat.le_refl _) _).more (by simp), HRD.out.lenG, HRD.out.lenB, HRD.out.lenH⟩) HQk.out).mono ?_
          rintro e wb ⟨rfl, hbb⟩
          have HBB := Lib.hid ((HBA.out.alloc HBA.out.size _).trans (hbb.mono (by have := HBA.out.size; simp; omega)))
          rw [HI.out]
          clear hbb HI z0 z1 z2 x0 x1 x2 x3 x4 x5 hPa hQa HRD HBA
          by_cases hkm : (k : Int) ≤ m1
          · have hd : decide ((k : Int) ≤ m1) = true := decide_eq_true hkm
            rw [hd]
            clear hd
            go_wp2_with fail
            go_roundw
            case rel => exact ⟨k + 1, by omega, by omega, by go_num, HBB⟩
            case measure => simp [intOf]; omega
          · have hd : decide ((k : Int) ≤ m1) = false := decide_eq_false hkm
            rw [hd]
            clear hd
            go_wp2_with fail
            go_roundw
            case rel => exact ⟨k + 1, by omega, by omega, by go_num, HBB⟩
            case measure => simp [intOf]; omega
        · obtain rfl : k = 21 := by omega
          have hkk : ¬ ((21 : Int) ≤ 20) := by omega
          clear hB
          generalize hwv : wr = wv at Dr HWr ⊢
          have Dv := Dr
          have HWv := HWr
          clear hwv Dr HWr hkk
          rw [show ((21 : Nat) : Int) = 21 from rfl]
          go_wp2_with fail
          go_loopw [17] (fun iv wr => ∃ k : Nat, 1 ≤ k ∧ k ≤ 10 ∧ iv = .int .i64 k ∧ Hid (Below wv.heap.size wv wr)) (fun i _ => (10 - intOf i).toNat)
          case atStart => exact ⟨1, by omega, by omega, rfl, Below.refl _ _⟩
          case round =>
            obtain ⟨k, hk1, hk2, rfl, hB⟩ := hrel
            have Dr := Lib.hid (Dv.out.below hB.out)
            have HWr := Lib.hid (HWv.out.trans (hB.out.mono HWv.out.size))
            by_cases hkl : k ≤ 9
            · have hkk : (k : Int) ≤ 9 := by omega
              have hkp : (1 : Int) ≤ (k : Int) := by omega
              have hiff := HF2.out k hkp hkk
              have HI := Lib.hid hiff
              have HQk := Lib.hid (question_size HQ.out hkp hkk)
              have hlg3 := Dr.out.lg
              have hlb3 := Dr.out.lb
              have hlh3 := Dr.out.lh
              have hsr := hB.out.size
              clear hiff
              have hnc := Dr.out.ncells
              have hcc := Dr.out.ccells
              obtain ⟨z0, z1, z2⟩ := hnc
              obtain ⟨x0, x1, x2, x3, x4, x5⟩ := hcc
              go_wp2_with fail
              refine (copyCoach_any c (some ⟨gb, 0, none⟩) c_bA c_hA c_gc c_bc c_hc wr Dr.out.creads (by omega) (by omega) (by omega)).mono ?_
              rintro e wa ⟨d_gA, d_bA, d_hA, d_gc, d_bc, d_hc, rfl, hrd, hba⟩
              have Da := Lib.hid (Dr.out.below hba)
              have HRD := Lib.hid hrd
              have HBA := Lib.hid (hB.out.trans (hba.mono hsr))
              have hsa := hba.size
              clear hrd hba z0 z1 z2 x0 x1 x2 x3 x4 x5 Dr
              have hnc := Da.out.ncells
              have hcc := Da.out.ccells
              obtain ⟨z0, z1, z2⟩ := hnc
              obtain ⟨x0, x1, x2, x3, x4, x5⟩ := hcc
              have hPa := lt_of_block Da.out.b4
              have hQa := lt_of_block Da.out.b5
              go_wp2_with fail
              refine (kcomes_any n n_tA n_sA n_tc n_sc { c with size := (k : Int) } d_gA d_bA d_hA d_gc d_bc d_hc fr ga ds _ ((Da.out.nreads.alloc (Nat.le_refl _) _).more (by simp)) (by exact ⟨(HRD.out.gauges.alloc (Nat.le_refl _) _).more (by simp), (HRD.out.brakes.alloc (Nat.le_refl _) _).more (by simp), (HRD.out.heats.alloc (Nat.le_refl _) _).more (by simp), HRD.out.lenG, HRD.out.lenB, HRD.out.lenH⟩) HQk.out).mono ?_
              rintro e wb ⟨rfl, hbb⟩
              have HBB := Lib.hid ((HBA.out.alloc HBA.out.size _).trans (hbb.mono (by have := HBA.out.size; simp; omega)))
              rw [HI.out]
              clear hbb HI z0 z1 z2 x0 x1 x2 x3 x4 x5 hPa hQa HRD HBA
              have hd : decide ((k : Int) ≤ 0) = false := by simp; omega
              rw [hd]
              clear hd
              go_wp2_with fail
              go_roundw
              case rel => exact ⟨k + 1, by omega, by omega, by go_num, HBB⟩
              case measure => simp [intOf]; omega
            · obtain rfl : k = 10 := by omega
              have hkk : ¬ ((10 : Int) ≤ 9) := by omega
              clear hB
              go_wp2_with (go_at_call 25; refine (rolling_any _).mono ?_; rintro e w15 ⟨rfl, hb15⟩)
              go_ret
              exact ⟨rfl, HWr.out.trans (hb15.mono HWr.out.size)⟩
    · obtain rfl : v1 = 0 := by rw [Hv1'.out, if_neg hz1]
      have h12 : 1 ≤ m1 := by omega
      obtain rfl : v2 = 0 := by rw [Hv2'.out, if_neg hz2]
      have h22 : 1 ≤ m2 := by omega
      clear Hv1' Hv2'
      clear hz1
      clear hz2
      have d1a : decide (m1 < 1) = false := by simp; omega
      have d1b : decide (20 < m1) = false := by simp; omega
      have d1c : ¬ m1 < 1 := by omega
      have d1d : ¬ 20 < m1 := by omega
      have d2a : decide (m2 < 1) = false := by simp; omega
      have d2b : decide (9 < m2) = false := by simp; omega
      have d2c : ¬ m2 < 1 := by omega
      have d2d : ¬ 9 < m2 := by omega
      go_wp2_with fail
      clear d1a d1b d1c d1d d2a d2b d2c d2d
      go_loopw [13] (fun iv wr => ∃ k : Nat, 1 ≤ k ∧ k ≤ 21 ∧ iv = .int .i64 k ∧ Hid (Below w9.heap.size w9 wr)) (fun i _ => (21 - intOf i).toNat)
      case atStart => exact ⟨1, by omega, by omega, rfl, Below.refl _ _⟩
      case round =>
        obtain ⟨k, hk1, hk2, rfl, hB⟩ := hrel
        have Dr := Lib.hid (D9.out.below hB.out)
        have HWr := Lib.hid (HW9.out.trans (hB.out.mono HW9.out.size))
        by_cases hkl : k ≤ 20
        · have hkk : (k : Int) ≤ 20 := by omega
          have hkp : (1 : Int) ≤ (k : Int) := by omega
          have hiff := HF1.out k hkp hkk
          have HI := Lib.hid hiff
          have HQk := Lib.hid (question_load HQ.out hkp hkk)
          have hlg3 := Dr.out.lg
          have hlb3 := Dr.out.lb
          have hlh3 := Dr.out.lh
          have hsr := hB.out.size
          clear hiff
          have hnc := Dr.out.ncells
          have hcc := Dr.out.ccells
          obtain ⟨z0, z1, z2⟩ := hnc
          obtain ⟨x0, x1, x2, x3, x4, x5⟩ := hcc
          go_wp2_with fail
          refine (copyCoach_any c (some ⟨gb, 0, none⟩) c_bA c_hA c_gc c_bc c_hc wr Dr.out.creads (by omega) (by omega) (by omega)).mono ?_
          rintro e wa ⟨d_gA, d_bA, d_hA, d_gc, d_bc, d_hc, rfl, hrd, hba⟩
          have Da := Lib.hid (Dr.out.below hba)
          have HRD := Lib.hid hrd
          have HBA := Lib.hid (hB.out.trans (hba.mono hsr))
          have hsa := hba.size
          clear hrd hba z0 z1 z2 x0 x1 x2 x3 x4 x5 Dr
          have hnc := Da.out.ncells
          have hcc := Da.out.ccells
          obtain ⟨z0, z1, z2⟩ := hnc
          obtain ⟨x0, x1, x2, x3, x4, x5⟩ := hcc
          have hPa := lt_of_block Da.out.b4
          have hQa := lt_of_block Da.out.b5
          go_wp2_with fail
          refine (kcomes_any n n_tA n_sA n_tc n_sc { c with load := (k : Int) } d_gA d_bA d_hA d_gc d_bc d_hc fr ga ds _ ((Da.out.nreads.alloc (Nat.le_refl _) _).more (by simp)) (by exact ⟨(HRD.out.gauges.alloc (Nat.le_refl _) _).more (by simp), (HRD.out.brakes.alloc (Nat.le_refl _) _).more (by simp), (HRD.out.heats.alloc (Nat.le_refl _) _).more (by simp), HRD.out.lenG, HRD.out.lenB, HRD.out.lenH⟩) HQk.out).mono ?_
          rintro e wb ⟨rfl, hbb⟩
          have HBB := Lib.hid ((HBA.out.alloc HBA.out.size _).trans (hbb.mono (by have := HBA.out.size; simp; omega)))
          rw [HI.out]
          clear hbb HI z0 z1 z2 x0 x1 x2 x3 x4 x5 hPa hQa HRD HBA
          by_cases hkm : (k : Int) ≤ m1
          · have hd : decide ((k : Int) ≤ m1) = true := decide_eq_true hkm
            rw [hd]
            clear hd
            go_wp2_with fail
            go_roundw
            case rel => exact ⟨k + 1, by omega, by omega, by go_num, HBB⟩
            case measure => simp [intOf]; omega
          · have hd : decide ((k : Int) ≤ m1) = false := decide_eq_false hkm
            rw [hd]
            clear hd
            go_wp2_with fail
            go_roundw
            case rel => exact ⟨k + 1, by omega, by omega, by go_num, HBB⟩
            case measure => simp [intOf]; omega
        · obtain rfl : k = 21 := by omega
          have hkk : ¬ ((21 : Int) ≤ 20) := by omega
          clear hB
          generalize hwv : wr = wv at Dr HWr ⊢
          have Dv := Dr
          have HWv := HWr
          clear hwv Dr HWr hkk
          rw [show ((21 : Nat) : Int) = 21 from rfl]
          go_wp2_with fail
          go_loopw [17] (fun iv wr => ∃ k : Nat, 1 ≤ k ∧ k ≤ 10 ∧ iv = .int .i64 k ∧ Hid (Below wv.heap.size wv wr)) (fun i _ => (10 - intOf i).toNat)
          case atStart => exact ⟨1, by omega, by omega, rfl, Below.refl _ _⟩
          case round =>
            obtain ⟨k, hk1, hk2, rfl, hB⟩ := hrel
            have Dr := Lib.hid (Dv.out.below hB.out)
            have HWr := Lib.hid (HWv.out.trans (hB.out.mono HWv.out.size))
            by_cases hkl : k ≤ 9
            · have hkk : (k : Int) ≤ 9 := by omega
              have hkp : (1 : Int) ≤ (k : Int) := by omega
              have hiff := HF2.out k hkp hkk
              have HI := Lib.hid hiff
              have HQk := Lib.hid (question_size HQ.out hkp hkk)
              have hlg3 := Dr.out.lg
              have hlb3 := Dr.out.lb
              have hlh3 := Dr.out.lh
              have hsr := hB.out.size
              clear hiff
              have hnc := Dr.out.ncells
              have hcc := Dr.out.ccells
              obtain ⟨z0, z1, z2⟩ := hnc
              obtain ⟨x0, x1, x2, x3, x4, x5⟩ := hcc
              go_wp2_with fail
              refine (copyCoach_any c (some ⟨gb, 0, none⟩) c_bA c_hA c_gc c_bc c_hc wr Dr.out.creads (by omega) (by omega) (by omega)).mono ?_
              rintro e wa ⟨d_gA, d_bA, d_hA, d_gc, d_bc, d_hc, rfl, hrd, hba⟩
              have Da := Lib.hid (Dr.out.below hba)
              have HRD := Lib.hid hrd
              have HBA := Lib.hid (hB.out.trans (hba.mono hsr))
              have hsa := hba.size
              clear hrd hba z0 z1 z2 x0 x1 x2 x3 x4 x5 Dr
              have hnc := Da.out.ncells
              have hcc := Da.out.ccells
              obtain ⟨z0, z1, z2⟩ := hnc
              obtain ⟨x0, x1, x2, x3, x4, x5⟩ := hcc
              have hPa := lt_of_block Da.out.b4
              have hQa := lt_of_block Da.out.b5
              go_wp2_with fail
              refine (kcomes_any n n_tA n_sA n_tc n_sc { c with size := (k : Int) } d_gA d_bA d_hA d_gc d_bc d_hc fr ga ds _ ((Da.out.nreads.alloc (Nat.le_refl _) _).more (by simp)) (by exact ⟨(HRD.out.gauges.alloc (Nat.le_refl _) _).more (by simp), (HRD.out.brakes.alloc (Nat.le_refl _) _).more (by simp), (HRD.out.heats.alloc (Nat.le_refl _) _).more (by simp), HRD.out.lenG, HRD.out.lenB, HRD.out.lenH⟩) HQk.out).mono ?_
              rintro e wb ⟨rfl, hbb⟩
              have HBB := Lib.hid ((HBA.out.alloc HBA.out.size _).trans (hbb.mono (by have := HBA.out.size; simp; omega)))
              rw [HI.out]
              clear hbb HI z0 z1 z2 x0 x1 x2 x3 x4 x5 hPa hQa HRD HBA
              by_cases hkm : (k : Int) ≤ m2
              · have hd : decide ((k : Int) ≤ m2) = true := decide_eq_true hkm
                rw [hd]
                clear hd
                go_wp2_with fail
                go_roundw
                case rel => exact ⟨k + 1, by omega, by omega, by go_num, HBB⟩
                case measure => simp [intOf]; omega
              · have hd : decide ((k : Int) ≤ m2) = false := decide_eq_false hkm
                rw [hd]
                clear hd
                go_wp2_with fail
                go_roundw
                case rel => exact ⟨k + 1, by omega, by omega, by go_num, HBB⟩
                case measure => simp [intOf]; omega
            · obtain rfl : k = 10 := by omega
              have hkk : ¬ ((10 : Int) ≤ 9) := by omega
              clear hB
              go_wp2_with (go_at_call 25; refine (rolling_any _).mono ?_; rintro e w15 ⟨rfl, hb15⟩)
              go_ret
              exact ⟨rfl, HWr.out.trans (hb15.mono HWr.out.size)⟩
end Go.Proofs.Ytpbjpochjagicaa
