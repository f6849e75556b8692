/- Walks: LineMust (by gen_law14.py). -/
import Derived.Test.YtpbjpochjagicaaW49
import Derived.Test.YtpbjpochjagicaaW57
import Derived.Test.YtpbjpochjagicaaW45
import Derived.Test.YtpbjpochjagicaaW34
import Derived.BigQuiet
namespace Go.Proofs.Ytpbjpochjagicaa
open Go.RowKit

/-- What Must hands back, as slots hold it: a list and an error. -/
theorem Dealt.cap {g B P Q : Nat} {w : World} {n : Pl.Nt} {n_tA n_sA : Option Addr} {n_tc n_sc : Nat} {c : Pl.Cch} {c_gA c_bA c_hA : Option Addr} {c_gc c_bc c_hc : Nat} (h : Dealt g B P Q w n n_tA n_sA n_tc n_sc c c_gA c_bA c_hA c_gc c_bc c_hc) (h0 : 0 < n.tracks.length) : n.tracks.length ≤ n_tc ∧ n_tc ≤ 9223372036854775807 := by
  rcases h.tr.2 with ⟨_, h2⟩ | ⟨b, cap, cur, hv, _, _, h4, h5, _⟩
  · omega
  · injection hv with _ _ hv
    subst hv
    simp only [maxLen] at h5
    exact ⟨h4, by omega⟩

theorem must_ge {n : Pl.Nt} {c : Pl.Cch} {fr g ds : Int} {k : Nat} : ∀ x ∈ Pl.mustTo n c fr g ds k, 0 ≤ x := by
  intro x hx
  simp only [Pl.mustTo, List.mem_map, List.mem_filter, List.mem_range] at hx
  obtain ⟨j, _, rfl⟩ := hx
  omega
set_option maxRecDepth 20000 in
set_option maxHeartbeats 8000000 in
theorem law14 (A : Option Addr) (cp : Nat) (xs : List Int) (w : World) (hx : Ints w w.heap.size A xs) (hl : xs.length ≤ 9223372036854775807) :
    Calls Try.prog 14 #[.slice A xs.length cp] w fun e w' => e = .returned (.bool true) ∧ Below w.heap.size w w' := by
  go_enter Try.func14, Try.ntmps14
  go_wp2_with fail
  refine (newBag_any A cp xs w hx hl).mono ?_
  rintro e w1 ⟨g, rfl, hgw, hb1, hB1⟩
  have HB1 := Lib.hid hB1
  have hg1 := hb1.lt
  go_wp2_with fail
  refine (netOf_any g 5 7 w1 hb1 (by omega) (by omega) (by omega) (by omega)).mono ?_
  rintro e w2 ⟨n, n_tA, n_sA, n_tc, n_sc, rfl, htr, hsh, hn, k12⟩
  have Htr := Lib.hid htr
  have Hsh := Lib.hid hsh
  have Hn := Lib.hid hn
  have K12 := Lib.hid k12
  have b2 := k12.bag
  clear htr hsh hn k12 hB1 hx
  go_wp2_with fail
  refine (coach_any g w2 b2).mono ?_
  rintro e w3 ⟨c, c_gA, c_bA, c_hA, c_gc, c_bc, c_hc, rfl, hga, hbr, hhe, hc, k23⟩
  have Hga := Lib.hid hga
  have Hbr := Lib.hid hbr
  have Hhe := Lib.hid hhe
  have Hc := Lib.hid hc
  have K23 := Lib.hid k23
  clear hga hbr hhe hc k23
  go_wp2_with fail
  have hNb := blk_alloc (heap_alloc_new w3 (.cells #[.int .i64 n.stops, .slice n_tA n.tracks.length n_tc, .slice n_sA n.shops.length n_sc] 27)) (.cells #[.slice c_gA c.gauges.length c_gc, .int .i64 c.size, .int .i64 c.load, .slice c_bA c.brakes.length c_bc, .slice c_hA c.heats.length c_hc, .bool c.hooks] 30)
  have hCb : ((w3.alloc (.cells #[.int .i64 n.stops, .slice n_tA n.tracks.length n_tc, .slice n_sA n.shops.length n_sc] 27)).alloc (.cells #[.slice c_gA c.gauges.length c_gc, .int .i64 c.size, .int .i64 c.load, .slice c_bA c.brakes.length c_bc, .slice c_hA c.heats.length c_hc, .bool c.hooks] 30)).heap[w3.heap.size + 1]? = some (.cells #[.slice c_gA c.gauges.length c_gc, .int .i64 c.size, .int .i64 c.load, .slice c_bA c.brakes.length c_bc, .slice c_hA c.heats.length c_hc, .bool c.hooks] 30 (0, 0)) := by
    have := heap_alloc_new (w3.alloc (.cells #[.int .i64 n.stops, .slice n_tA n.tracks.length n_tc, .slice n_sA n.shops.length n_sc] 27)) (.cells #[.slice c_gA c.gauges.length c_gc, .int .i64 c.size, .int .i64 c.load, .slice c_bA c.brakes.length c_bc, .slice c_hA c.heats.length c_hc, .bool c.hooks] 30)
    simpa using this
  have hb34 : Below w3.heap.size w3 ((w3.alloc (.cells #[.int .i64 n.stops, .slice n_tA n.tracks.length n_tc, .slice n_sA n.shops.length n_sc] 27)).alloc (.cells #[.slice c_gA c.gauges.length c_gc, .int .i64 c.size, .int .i64 c.load, .slice c_bA c.brakes.length c_bc, .slice c_hA c.heats.length c_hc, .bool c.hooks] 30)) := ((Below.refl _ _).alloc (Nat.le_refl _) _).alloc (by simp) _
  have hD := dealt_of n n_tA n_sA n_tc n_sc c c_gA c_bA c_hA c_gc c_bc c_hc hg1 Htr.out Hsh.out Hn.out (by omega) (by omega) K12.out Hga.out Hbr.out Hhe.out Hc.out K23.out hb34 hNb hCb (Nat.le_refl _) (by omega)
  have hW4 : Below w.heap.size w ((w3.alloc (.cells #[.int .i64 n.stops, .slice n_tA n.tracks.length n_tc, .slice n_sA n.shops.length n_sc] 27)).alloc (.cells #[.slice c_gA c.gauges.length c_gc, .int .i64 c.size, .int .i64 c.load, .slice c_bA c.brakes.length c_bc, .slice c_hA c.heats.length c_hc, .bool c.hooks] 30)) := by
    have hs12 := K12.out.size
    have hs23 := K23.out.size
    have hs1 := HB1.out.size
    exact ((HB1.out.trans (K12.out.below hgw hg1)).trans (K23.out.below hgw (by omega))).trans (hb34.mono (by omega))
  clear Htr Hsh Hn K12 Hga Hbr Hhe Hc K23 hb34 hNb hCb b2 HB1
  generalize hQ : w3.heap.size + 1 = Q at hD ⊢
  generalize (w3.alloc (.cells #[.int .i64 n.stops, .slice n_tA n.tracks.length n_tc, .slice n_sA n.shops.length n_sc] 27)).alloc (.cells #[.slice c_gA c.gauges.length c_gc, .int .i64 c.size, .int .i64 c.load, .slice c_bA c.brakes.length c_bc, .slice c_hA c.heats.length c_hc, .bool c.hooks] 30) = w4 at hD hW4 ⊢
  generalize w3.heap.size = P at hD ⊢
  clear hQ
  have HW4 := Lib.hid hW4
  clear hW4
  obtain ⟨gb, hgA, hgb⟩ := hD.gauges
  subst hgA
  have D0 := Lib.hid hD
  have hst1 := hD.st
  have hst6 := hD.st6
  have hng := hD.ng
  have hlg := hD.lg
  have hP := lt_of_block hD.b4
  have hQ := lt_of_block hD.b5
  have hS : w4.drew.cell? ⟨P, 0, none⟩ = some (.int .i64 n.stops) ∧ w4.drew.cell? ⟨Q, 0, none⟩ = some (.slice (some ⟨gb, 0, none⟩) c.gauges.length c_gc) := ⟨hD.drew.ncells.1, hD.drew.ccells.1⟩
  have HW := Lib.hid (IntWalk.i64_in (n.stops - 1) ⟨by omega, by omega⟩)
  clear hD
  go_region_held3 (fun w' => w'.cell? ⟨P, 0, none⟩ = some (.int .i64 n.stops) ∧ w'.cell? ⟨Q, 0, none⟩ = some (.slice (some ⟨gb, 0, none⟩) c.gauges.length c_gc))
    (first | go_keep | exact hS)
    (first
      | (go_at_call 18; rw [HW.out]; refine (up_any g _ _ D0.out.drew.bag (by omega)).mono ?_; rintro e w5 ⟨fr, rfl, hf0, hf1, hB5⟩; have D5 := Lib.hid (D0.out.drew.bagged hB5); have HB5 := Lib.hid hB5; clear hB5; have hS := And.intro D5.out.ncells.1 D5.out.ccells.1)
      | (go_at_call 19; refine (one_any g gb 0 _ c.gauges _ D5.out.bag D5.out.ga.ints hgb hng (by omega)).mono ?_; rintro e w6 ⟨ga, rfl, hgm, hB6⟩; have D6 := Lib.hid (D5.out.bagged hB6); have HB6 := Lib.hid hB6; clear hB6; have hS := And.intro D6.out.ncells.1 D6.out.ccells.1)
      | (go_at_call 18; refine (up_any g _ _ D6.out.bag (by omega)).mono ?_; rintro e w7 ⟨ds, rfl, hd0, hd1, hB7⟩; have D7 := Lib.hid (D6.out.bagged hB7); have HB7 := Lib.hid hB7; clear hB7; have hS := And.intro D7.out.ncells.1 D7.out.ccells.1))
  have HW7 := Lib.hid (HW4.out.trans ((((((Kb.refl D0.out.bag).drew.bagged HB5.out).bagged HB6.out)).bagged HB7.out).below hgw D0.out.bag.lt))
  clear HW4 HB5 HB6 HB7 hS
  have HA := Lib.hid (D7.out.asked hf0 (by omega) hgm hd0 (by omega))
  have HQ := Lib.hid (D7.out.question hf0 (show fr ≤ n.stops - 1 by omega) hgm)
  have HCK := Lib.hid D7.out.ck
  have hnc := D7.out.ncells
  have hcc := D7.out.ccells
  obtain ⟨z0, z1, z2⟩ := hnc
  obtain ⟨x0, x1, x2, x3, x4, x5⟩ := hcc
  go_wp2_with fail
  refine (must_any n n_tA n_sA n_tc n_sc c (some ⟨gb, 0, none⟩) c_bA c_hA c_gc c_bc c_hc fr ga ds w7 D7.out.nreads D7.out.creads HA.out).mono ?_
  rintro e w8 ⟨mA, ml, mc, v, rfl, hb8, hno, hyes⟩
  have D8 := Lib.hid (D7.out.below hb8)
  have HW8 := Lib.hid (HW7.out.trans (hb8.mono HW7.out.size))
  have HNO := Lib.hid hno
  have HYES := Lib.hid hyes
  clear z0 z1 z2 x0 x1 x2 x3 x4 x5 hb8 HW7 D7 hno hyes
  have hnc := D8.out.ncells
  have hcc := D8.out.ccells
  obtain ⟨z0, z1, z2⟩ := hnc
  obtain ⟨x0, x1, x2, x3, x4, x5⟩ := hcc
  go_wp2_with fail
  refine (kcomes_any n n_tA n_sA n_tc n_sc c (some ⟨gb, 0, none⟩) c_bA c_hA c_gc c_bc c_hc fr ga ds w8 D8.out.nreads D8.out.creads HQ.out).mono ?_
  rintro e w9 ⟨rfl, hb9⟩
  have D9 := Lib.hid (D8.out.below hb9)
  have HW9 := Lib.hid (HW8.out.trans (hb9.mono HW8.out.size))
  have HB9 := Lib.hid hb9
  clear z0 z1 z2 x0 x1 x2 x3 x4 x5 hb9 HW8
  cases hC : Pl.comes n c [] (fr, ga) ds
  · obtain ⟨rfl, rfl⟩ := HNO.out hC
    clear HNO HYES hC
    go_wp2_with (go_at_call 25; refine (rolling_any _).mono ?_; rintro e w15 ⟨rfl, hb15⟩)
    go_ret
    exact ⟨rfl, HW9.out.trans (hb15.mono HW9.out.size)⟩
  · obtain ⟨rfl, rfl, hI⟩ := HYES.out hC
    clear HNO HYES hC
    have HI := Lib.hid ((hI.below HB9.out).more HB9.out.size)
    have HUP := Lib.hid (Pl.mustTo_up n c fr ga ds n.tracks.length)
    have hm0 : ∀ i : Nat, (i : Int) ∈ Pl.mustTo n c fr ga ds n.tracks.length ↔ i < n.tracks.length ∧ Pl.comes (Pl.without n i) c [] (fr, ga) ds = false := fun i => Pl.mem_mustTo
    have hlt0 : ∀ x ∈ Pl.mustTo n c fr ga ds n.tracks.length, x < (n.tracks.length : Int) := Pl.mustTo_lt
    have HZ0 := Lib.hid (Pl.below_none _ 0 (must_ge (n := n) (c := c) (fr := fr) (g := ga) (ds := ds) (k := n.tracks.length)))
    have HM := Lib.hid hm0
    have HLT := Lib.hid hlt0
    clear hm0 hlt0
    have hml := Pl.mustTo_length n c fr ga ds n.tracks.length
    have hT8 := D9.out.t8
    have ml_def : Hid (Pl.must n c fr ga ds = Pl.mustTo n c fr ga ds n.tracks.length) := rfl
    rw [ml_def.out] at HI ⊢
    generalize Pl.mustTo n c fr ga ds n.tracks.length = ms at *
    clear hI HB9 D8 ml_def
    go_wp2_with fail
    go_loopw [13, 14] (fun av iv wr => ∃ k a : Nat, k ≤ n.tracks.length ∧ av = .int .i64 a ∧ iv = .int .i64 k ∧ Hid (a = Pl.below ms k) ∧ Hid (Below w9.heap.size w9 wr)) (fun _ i _ => n.tracks.length - (intOf i).toNat)
    case atStart => exact ⟨0, 0, by omega, rfl, rfl, HZ0.out.symm, Below.refl _ _⟩
    case round =>
      obtain ⟨k, a, hk, rfl, rfl, ha, hB⟩ := hrel
      have Dr := Lib.hid (D9.out.below hB.out)
      have hab : a ≤ ms.length := by rw [ha.out]; exact Pl.below_le _ _
      have HIr := Lib.hid ((HI.out.below hB.out).more hB.out.size)
      by_cases hkl : k < n.tracks.length
      · have hkk : (k : Int) < (n.tracks.length : Int) := by omega
        have hnc := Dr.out.ncells
        have hcc := Dr.out.ccells
        obtain ⟨z0, z1, z2⟩ := hnc
        obtain ⟨x0, x1, x2, x3, x4, x5⟩ := hcc
        obtain ⟨hcp, hmx⟩ := Dr.out.cap (by omega)
        have HQk := Lib.hid (Pl.question_without HCK.out HQ.out k)
        have hS := And.intro (And.intro z0 (And.intro z1 z2)) (And.intro x0 (And.intro x1 (And.intro x2 (And.intro x3 (And.intro x4 x5)))))
        have HK : Hid (∀ W, Dealt g (w1.heap.size + 2) P Q W n n_tA n_sA n_tc n_sc c (some ⟨gb, 0, none⟩) c_bA c_hA c_gc c_bc c_hc → (W.cell? ⟨P, 0, none⟩ = some (.int .i64 n.stops) ∧ W.cell? ⟨P, 1, none⟩ = some (.slice n_tA n.tracks.length n_tc) ∧ W.cell? ⟨P, 2, none⟩ = some (.slice n_sA n.shops.length n_sc)) ∧ (W.cell? ⟨Q, 0, none⟩ = some (.slice (some ⟨gb, 0, none⟩) c.gauges.length c_gc) ∧ W.cell? ⟨Q, 1, none⟩ = some (.int .i64 c.size) ∧ W.cell? ⟨Q, 2, none⟩ = some (.int .i64 c.load) ∧ W.cell? ⟨Q, 3, none⟩ = some (.slice c_bA c.brakes.length c_bc) ∧ W.cell? ⟨Q, 4, none⟩ = some (.slice c_hA c.heats.length c_hc) ∧ W.cell? ⟨Q, 5, none⟩ = some (.bool c.hooks))) := fun W h => ⟨h.ncells, h.ccells⟩
        have hD0 := Dr.out.drew
        have HD0 := Lib.hid hD0
        clear hD0
        replace hS := HK.out _ HD0.out
        have hsr := hB.out.size
        have HPr := lt_of_block Dr.out.b4
        have HQr := lt_of_block Dr.out.b5
        clear z0 z1 z2 x0 x1 x2 x3 x4 x5
        have z1 := Dr.out.ncells.2.1
        go_wp2_with fail
        clear z1
        go_region_held3 (fun W => (W.cell? ⟨P, 0, none⟩ = some (.int .i64 n.stops) ∧ W.cell? ⟨P, 1, none⟩ = some (.slice n_tA n.tracks.length n_tc) ∧ W.cell? ⟨P, 2, none⟩ = some (.slice n_sA n.shops.length n_sc)) ∧ (W.cell? ⟨Q, 0, none⟩ = some (.slice (some ⟨gb, 0, none⟩) c.gauges.length c_gc) ∧ W.cell? ⟨Q, 1, none⟩ = some (.int .i64 c.size) ∧ W.cell? ⟨Q, 2, none⟩ = some (.int .i64 c.load) ∧ W.cell? ⟨Q, 3, none⟩ = some (.slice c_bA c.brakes.length c_bc) ∧ W.cell? ⟨Q, 4, none⟩ = some (.slice c_hA c.heats.length c_hc) ∧ W.cell? ⟨Q, 5, none⟩ = some (.bool c.hooks)))
          (first | go_keep | exact hS)
          (first
            | (go_at_call 61; refine (without_any n n_tA n_sA n_tc n_sc k hkl _ HD0.out.nreads hcp hmx (by omega)).mono ?_; rintro e wA ⟨A1, c1, rfl, hn1, hb1⟩; have HN1 := Lib.hid hn1; have HB1 := Lib.hid hb1; have D1 := Lib.hid (HD0.out.below hb1); clear hn1 hb1; have hS := HK.out _ D1.out)
            | (go_at_call 45; refine (kcomes_any (Pl.without n k) A1 n_sA c1 n_sc c (some ⟨gb, 0, none⟩) c_bA c_hA c_gc c_bc c_hc fr ga ds _ HN1.out D1.out.creads HQk.out).mono ?_; rintro e wB ⟨rfl, hb2⟩; have HB2 := Lib.hid hb2; have D2 := Lib.hid (D1.out.below hb2); clear hb2; have hS := HK.out _ D2.out))
        have HBB := Lib.hid (hB.out.trans (((Below.refl wr.heap.size wr).drew.trans (HB1.out.trans (HB2.out.mono HB1.out.size))).mono hsr))
        have HIB := Lib.hid ((HI.out.below HBB.out).more HBB.out.size)
        clear hS HIr HB1 HB2 HN1 D1 D2 HD0 HK Dr HQk hB
        cases hcm : Pl.comes (Pl.without n k) c [] (fr, ga) ds
        · have hin : (k : Int) ∈ ms := (HM.out k).2 ⟨hkl, hcm⟩
          have hat := Pl.below_at HUP.out hin
          have hsc := Pl.below_succ_in HUP.out hin
          rw [← ha.out] at hat hsc
          obtain ⟨bm, om, hmA, hbm, hcl⟩ := HIB.out a k hat
          subst hmA
          have hal : (a : Int) < (ms.length : Int) := by have := (List.getElem?_eq_some_iff.1 hat).1; omega
          have HSC := Lib.hid hsc
          clear hcm hin hat hsc ha
          go_wp2_with fail
          go_roundw
          case rel => exact ⟨k + 1, a + 1, by omega, by go_num, by go_num, (by show _ = _; have := HSC.out; simpa using this.symm), HBB⟩
          case measure => simp [intOf]; omega
        · have hout : (k : Int) ∉ ms := fun h => by have := ((HM.out k).1 h).2; rw [hcm] at this; cases this
          have hsc := Pl.below_succ_out hout
          rw [← ha.out] at hsc
          have HSC := Lib.hid hsc
          clear hcm hout hsc ha
          go_wp2_with fail
          go_roundw
          case rel => exact ⟨k + 1, a, by omega, rfl, by go_num, (by show _ = _; have := HSC.out; simpa using this.symm), HBB⟩
          case measure => simp [intOf]; omega
      · obtain rfl : k = n.tracks.length := by omega
        have he : a = ms.length := by rw [ha.out]; exact Pl.below_all _ _ HLT.out
        subst he
        have HWr := Lib.hid (HW9.out.trans (hB.out.mono HW9.out.size))
        have hkk : ¬ ((n.tracks.length : Int) < (n.tracks.length : Int)) := by omega
        have z1 := Dr.out.ncells.2.1
        clear ha hB
        go_wp2_with (go_at_call 25; refine (rolling_any _).mono ?_; rintro e w15 ⟨rfl, hb15⟩)
        go_ret
        exact ⟨rfl, HWr.out.trans (hb15.mono HWr.out.size)⟩
end Go.Proofs.Ytpbjpochjagicaa
