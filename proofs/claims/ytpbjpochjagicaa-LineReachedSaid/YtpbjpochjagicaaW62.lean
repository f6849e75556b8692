/- Walks: LineReached (by gen_law13.py). -/
import Derived.Test.YtpbjpochjagicaaW61
import Derived.Test.YtpbjpochjagicaaW51
import Derived.Test.YtpbjpochjagicaaW34
import Derived.BigQuiet
namespace Go.Proofs.Ytpbjpochjagicaa
open Go.RowKit

/-! worlds that have turned in one old block alone -/
theorem row_other {w w' : World} {P base size n : Nat} {e T : TypeId} {v : Value} {xs : List Value} {z : Array Value} (h : w.ownsRow base e size v n xs) (hg : w.grownBy w' (some P)) (hP : w.heap[P]? = some (.cells z T (0, 0))) (hT : T ≠ e) : w'.ownsRow base e size v n xs := by
  refine ⟨h.1, ?_⟩
  rcases h.2 with h2 | ⟨b, cap, cur, hv, hg2, hh, r⟩
  · exact .inl h2
  · refine .inr ⟨b, cap, cur, hv, hg2, (hg.block b (lt_of_block hh) (fun e2 => ?_)).trans hh, r⟩
    injection e2 with e2
    subst e2
    rw [hP] at hh
    injection hh with hh
    injection hh with _ hh _
    exact hT hh
theorem below_of_grown {w w' : World} {P B : Nat} (hg : w.grownBy w' (some P)) (hB : B ≤ P) (hs : B ≤ w.heap.size) : Below B w w' :=
  ⟨hg.os, hg.tape, hg.output, hg.size, fun k hk => hg.block k (by omega) (fun e => by injection e; omega)⟩
theorem grown_put {w w' : World} {P : Nat} (h : w.grownBy w' (some P)) (i : Nat) (v : Value) : w.grownBy (w'.setCell ⟨P, i, none⟩ v) (some P) :=
  ⟨h.os, h.tape, h.output, by rw [size_setCell]; exact h.size, fun k hk hn => (Below.heap_setCell w' ⟨P, i, none⟩ v k (fun e => hn (by rw [e]))).trans (h.block k hk hn)⟩
theorem grown_new {w w' : World} {P : Nat} (h : w.grownBy w' (some P)) (o : Obj) : w.grownBy (w'.alloc o) (some P) := h.trans (World.grownBy_alloc _ o _)
theorem grown_far {w w1 w2 : World} {P B : Nat} (h : w.grownBy w1 (some P)) (k : Below B w1 w2) (hB : w.heap.size ≤ B) : w.grownBy w2 (some P) :=
  ⟨k.os.trans h.os, k.tape.trans h.tape, k.output.trans h.output, Nat.le_trans h.size k.size, fun i hi hn => (k.block i (by omega)).trans (h.block i hi hn)⟩
theorem grown_own {w w1 w2 : World} {P : Nat} {row : Option Nat} (h : w.grownBy w1 (some P)) (k : w1.grownBy w2 row) (hr : ∀ i, row = some i → w.heap.size ≤ i) : w.grownBy w2 (some P) :=
  ⟨k.os.trans h.os, k.tape.trans h.tape, k.output.trans h.output, Nat.le_trans h.size k.size, fun i hi hn => (k.block i (Nat.lt_of_lt_of_le hi h.size) (fun e => by have := hr i e.symm; omega)).trans (h.block i hi hn)⟩

set_option maxRecDepth 20000 in
set_option maxHeartbeats 20000000 in
theorem law13 (A : Option Addr) (cp : Nat) (xs : List Int) (w : World) (hx : Ints w w.heap.size A xs) (hl : xs.length ≤ 9223372036854775807) :
    Calls Try.prog 13 #[.slice A xs.length cp] w fun e w' => e = .returned (.bool true) ∧ Below w.heap.size w w' := by
  go_enter Try.func13, Try.ntmps13
  go_wp2_with fail
  refine (newBag_any A cp xs w hx hl).mono ?_
  rintro e w1 ⟨g, rfl, hgw, hb1, hB1⟩
  have HB1 := Lib.hid hB1
  have hg1 := hb1.lt
  go_wp2_with fail
  refine (netOf_any g 6 8 w1 hb1 (by omega) (by omega) (by omega) (by omega)).mono ?_
  rintro e w2 ⟨n, n_tA, n_sA, n_tc, n_sc, rfl, htr, hsh, hn, k12⟩
  have Htr := Lib.hid htr
  have Hsh := Lib.hid hsh
  have Hn := Lib.hid hn
  have K12 := Lib.hid k12
  have b2 := k12.bag
  clear htr hsh hn k12 hB1 hx
  go_wp2_with fail
  refine (coach_any g w2 b2).mono ?_
  rintro e w3 ⟨c, c_gA, c_bA, c_hA, c_gc, c_bc, c_hc, rfl, hga, hbr, hhe, hc, k23⟩
  have Hga := Lib.hid hga
  have Hbr := Lib.hid hbr
  have Hhe := Lib.hid hhe
  have Hc := Lib.hid hc
  have K23 := Lib.hid k23
  clear hga hbr hhe hc k23
  go_wp2_with fail
  have hNb := blk_alloc (heap_alloc_new w3 (.cells #[.int .i64 n.stops, .slice n_tA n.tracks.length n_tc, .slice n_sA n.shops.length n_sc] 27)) (.cells #[.slice c_gA c.gauges.length c_gc, .int .i64 c.size, .int .i64 c.load, .slice c_bA c.brakes.length c_bc, .slice c_hA c.heats.length c_hc, .bool c.hooks] 30)
  have hCb : ((w3.alloc (.cells #[.int .i64 n.stops, .slice n_tA n.tracks.length n_tc, .slice n_sA n.shops.length n_sc] 27)).alloc (.cells #[.slice c_gA c.gauges.length c_gc, .int .i64 c.size, .int .i64 c.load, .slice c_bA c.brakes.length c_bc, .slice c_hA c.heats.length c_hc, .bool c.hooks] 30)).heap[w3.heap.size + 1]? = some (.cells #[.slice c_gA c.gauges.length c_gc, .int .i64 c.size, .int .i64 c.load, .slice c_bA c.brakes.length c_bc, .slice c_hA c.heats.length c_hc, .bool c.hooks] 30 (0, 0)) := by
    have := heap_alloc_new (w3.alloc (.cells #[.int .i64 n.stops, .slice n_tA n.tracks.length n_tc, .slice n_sA n.shops.length n_sc] 27)) (.cells #[.slice c_gA c.gauges.length c_gc, .int .i64 c.size, .int .i64 c.load, .slice c_bA c.brakes.length c_bc, .slice c_hA c.heats.length c_hc, .bool c.hooks] 30)
    simpa using this
  have hb34 : Below w3.heap.size w3 ((w3.alloc (.cells #[.int .i64 n.stops, .slice n_tA n.tracks.length n_tc, .slice n_sA n.shops.length n_sc] 27)).alloc (.cells #[.slice c_gA c.gauges.length c_gc, .int .i64 c.size, .int .i64 c.load, .slice c_bA c.brakes.length c_bc, .slice c_hA c.heats.length c_hc, .bool c.hooks] 30)) := ((Below.refl _ _).alloc (Nat.le_refl _) _).alloc (by simp) _
  have hD := dealt_of n n_tA n_sA n_tc n_sc c c_gA c_bA c_hA c_gc c_bc c_hc hg1 Htr.out Hsh.out Hn.out (by omega) (by omega) K12.out Hga.out Hbr.out Hhe.out Hc.out K23.out hb34 hNb hCb (Nat.le_refl _) (by omega)
  have hW4 : Below w.heap.size w ((w3.alloc (.cells #[.int .i64 n.stops, .slice n_tA n.tracks.length n_tc, .slice n_sA n.shops.length n_sc] 27)).alloc (.cells #[.slice c_gA c.gauges.length c_gc, .int .i64 c.size, .int .i64 c.load, .slice c_bA c.brakes.length c_bc, .slice c_hA c.heats.length c_hc, .bool c.hooks] 30)) := by
    have hs12 := K12.out.size
    have hs23 := K23.out.size
    have hs1 := HB1.out.size
    exact ((HB1.out.trans (K12.out.below hgw hg1)).trans (K23.out.below hgw (by omega))).trans (hb34.mono (by omega))
  clear Htr Hsh Hn K12 Hga Hbr Hhe Hc K23 hb34 hNb hCb b2 HB1
  generalize hQ : w3.heap.size + 1 = Q at hD ⊢
  generalize (w3.alloc (.cells #[.int .i64 n.stops, .slice n_tA n.tracks.length n_tc, .slice n_sA n.shops.length n_sc] 27)).alloc (.cells #[.slice c_gA c.gauges.length c_gc, .int .i64 c.size, .int .i64 c.load, .slice c_bA c.brakes.length c_bc, .slice c_hA c.heats.length c_hc, .bool c.hooks] 30) = w4 at hD hW4 ⊢
  generalize w3.heap.size = P at hD ⊢
  clear hQ
  have HW4 := Lib.hid hW4
  clear hW4
  obtain ⟨gb, hgA, hgb⟩ := hD.gauges
  subst hgA
  have D0 := Lib.hid hD
  have hst1 := hD.st
  have hst6 := hD.st6
  have hng := hD.ng
  have hlg := hD.lg
  have hP := lt_of_block hD.b4
  have hQ := lt_of_block hD.b5
  have hS : w4.drew.cell? ⟨P, 0, none⟩ = some (.int .i64 n.stops) ∧ w4.drew.cell? ⟨Q, 0, none⟩ = some (.slice (some ⟨gb, 0, none⟩) c.gauges.length c_gc) := ⟨hD.drew.ncells.1, hD.drew.ccells.1⟩
  have HW := Lib.hid (IntWalk.i64_in (n.stops - 1) ⟨by omega, by omega⟩)
  clear hD
  go_region_held3 (fun w' => w'.cell? ⟨P, 0, none⟩ = some (.int .i64 n.stops) ∧ w'.cell? ⟨Q, 0, none⟩ = some (.slice (some ⟨gb, 0, none⟩) c.gauges.length c_gc))
    (first | go_keep | exact hS)
    (first
      | (go_at_call 18; rw [HW.out]; refine (up_any g _ _ D0.out.drew.bag (by omega)).mono ?_; rintro e w5 ⟨fr, rfl, hf0, hf1, hB5⟩; have D5 := Lib.hid (D0.out.drew.bagged hB5); have HB5 := Lib.hid hB5; clear hB5; have hS := And.intro D5.out.ncells.1 D5.out.ccells.1)
      | (go_at_call 19; refine (one_any g gb 0 _ c.gauges _ D5.out.bag D5.out.ga.ints hgb hng (by omega)).mono ?_; rintro e w6 ⟨ga, rfl, hgm, hB6⟩; have D6 := Lib.hid (D5.out.bagged hB6); have HB6 := Lib.hid hB6; clear hB6; have hS := And.intro D6.out.ncells.1 D6.out.ccells.1))
  have HW6 := Lib.hid (HW4.out.trans (((((Kb.refl D0.out.bag).drew.bagged HB5.out).bagged HB6.out)).below hgw D0.out.bag.lt))
  clear HW4 HB5 HB6 hS
  have HQ := Lib.hid (D6.out.question hf0 (show fr ≤ n.stops - 1 by omega) hgm)
  have hnc := D6.out.ncells
  have hcc := D6.out.ccells
  obtain ⟨z0, z1, z2⟩ := hnc
  obtain ⟨x0, x1, x2, x3, x4, x5⟩ := hcc
  go_wp2_with fail
  refine (reach_any n n_tA n_sA n_tc n_sc c (some ⟨gb, 0, none⟩) c_bA c_hA c_gc c_bc c_hc fr ga w6 D6.out.nreads D6.out.creads HQ.out).mono ?_
  rintro e w7 ⟨lA, lc, ys, rfl, hup, hmem, hl24, hI, hb7⟩
  have D7 := Lib.hid (D6.out.below hb7)
  have HW7 := Lib.hid (HW6.out.trans (hb7.mono HW6.out.size))
  have HUP := Lib.hid hup
  have HMEM := Lib.hid hmem
  have HI := Lib.hid hI
  have hfr : fr ∈ ys := (hmem fr).2 ((Pl.comes_gets places (asked_in (asked_of (ds := fr) HQ.out hf0 (by omega))) places_length).2 ⟨(fr, ga), .refl, rfl⟩)
  have hix : 0 ≤ idx ys fr := (idx_ge _ _).2 hfr
  have hge : ∀ x ∈ ys, 0 ≤ x ∧ x ≤ n.stops - 1 := fun x hx => comes_range HQ.out ((hmem x).1 hx)
  have HGE := Lib.hid hge
  have HZ0 := Lib.hid (Pl.below_none ys 0 (fun x hx => (hge x hx).1))
  clear z0 z1 z2 x0 x1 x2 x3 x4 x5 hb7 HW6 D6 hup hmem hI hfr hge
  have hqi : ¬ idx ys fr < 0 := by omega
  go_wp2_with fail
  refine (seat_any lA lc ys fr w7.heap.size w7 HI.out (by omega)).mono ?_
  rintro e w7b ⟨rfl, rfl⟩
  go_wp2_with fail
  clear hix hqi
  go_loopw [10, 11] (fun av iv wr => ∃ k a : Nat, (k : Int) ≤ n.stops ∧ av = .int .i64 a ∧ iv = .int .i64 k ∧ Hid (a = Pl.below ys k) ∧ Hid (Below w7.heap.size w7 wr)) (fun _ i _ => (n.stops - intOf i).toNat)
  case atStart => exact ⟨0, 0, by omega, rfl, rfl, HZ0.out.symm, Below.refl _ _⟩
  case round =>
    obtain ⟨k, a, hk, rfl, rfl, ha, hB⟩ := hrel
    have Dr := Lib.hid (D7.out.below hB.out)
    have hab : a ≤ ys.length := by rw [ha.out]; exact Pl.below_le _ _
    have hsr := hB.out.size
    have hnc := Dr.out.ncells
    have hcc := Dr.out.ccells
    obtain ⟨z0, z1, z2⟩ := hnc
    obtain ⟨x0, x1, x2, x3, x4, x5⟩ := hcc
    by_cases hkl : (k : Int) < n.stops
    · have HAk := Lib.hid (asked_of (ds := (k : Int)) HQ.out (by omega) (by omega))
      go_wp2_with fail
      refine (wayok_any n n_tA n_sA n_tc n_sc c (some ⟨gb, 0, none⟩) c_bA c_hA c_gc c_bc c_hc fr ga (k : Int) wr Dr.out.nreads Dr.out.creads HAk.out).mono ?_
      rintro e wa ⟨wA, wl, wc2, km, v, rfl, hba, _, hno, hyes⟩
      have HBA := Lib.hid (hB.out.trans (hba.mono hsr))
      have HIa := Lib.hid ((HI.out.below HBA.out).more HBA.out.size)
      clear z0 z1 z2 x0 x1 x2 x3 x4 x5 hba
      rcases hway : Pl.way n c fr ga (k : Int) with _ | t
      · obtain ⟨rfl, rfl, rfl⟩ := hno rfl hway
        have hout : (k : Int) ∉ ys := fun h => by
          obtain ⟨t, ht⟩ := (way_iff HAk.out).2 ((HMEM.out _).1 h)
          rw [hway] at ht
          cases ht
        have hsc := Pl.below_succ_out hout
        rw [← ha.out] at hsc
        have HSC := Lib.hid hsc
        clear hno hyes hway hout hsc ha
        go_wp2_with fail
        go_roundw
        case rel => exact ⟨k + 1, a, by omega, rfl, by go_num, (by show _ = _; have := HSC.out; simpa using this.symm), HBA⟩
        case measure => simp [intOf]; omega
      · obtain ⟨rfl, rfl, rfl, _⟩ := hyes t rfl hway
        have hin : (k : Int) ∈ ys := (HMEM.out _).2 ((way_iff HAk.out).1 ⟨t, hway⟩)
        have hat := Pl.below_at HUP.out hin
        have hsc := Pl.below_succ_in HUP.out hin
        rw [← ha.out] at hat hsc
        obtain ⟨bm, om, hmA, hbm, hcl⟩ := HIa.out a k hat
        subst hmA
        have hal : (a : Int) < (ys.length : Int) := by have := (List.getElem?_eq_some_iff.1 hat).1; omega
        have HSC := Lib.hid hsc
        clear hno hyes hway hin hat hsc ha
        go_wp2_with fail
        go_roundw
        case rel => exact ⟨k + 1, a + 1, by omega, by go_num, by go_num, (by show _ = _; have := HSC.out; simpa using this.symm), HBA⟩
        case measure => simp [intOf]; omega
    · have hke : n.stops = (k : Int) := by omega
      have he : a = ys.length := by rw [ha.out]; exact Pl.below_all _ _ (fun x hx => by have := HGE.out x hx; omega)
      subst he
      have HKE := Lib.hid hke
      have HWr := Lib.hid (HW7.out.trans (hB.out.mono HW7.out.size))
      have HIr := Lib.hid ((HI.out.below hB.out).more hsr)
      obtain ⟨w8, rfl⟩ : ∃ w8, w8 = wr := ⟨_, rfl⟩
      have hPb := Dr.out.b4
      have f2 := blk_frozen hPb 2
      have HPB := Lib.hid hPb
      have hP8 := lt_of_block hPb
      have hQ8 := lt_of_block Dr.out.b5
      have hs1 := Dr.out.st
      have hs6 := Dr.out.st6
      have hD0P : w.heap.size ≤ P := by have := Dr.out.gP; omega
      clear hke ha hB HI D7 hPb hk
      go_wp2_with fail
      clear z0 z1 z2 x0 x1 x2 x3 x4 x5 f2
      have hset : (w8.setCell ⟨P, 2, none⟩ (.slice none 0 0)).heap[P]? = some (.cells #[.int .i64 n.stops, .slice n_tA n.tracks.length n_tc, .slice none 0 0] 27 (0, 0)) := by
        have := blk_set (i := 2) HPB.out (.slice none 0 0)
        simpa using this
      have hgr0 : w8.grownBy (w8.setCell ⟨P, 2, none⟩ (.slice none 0 0)) (some P) := grown_put (World.grownBy.refl _ _) 2 _
      have HSET := Lib.hid hset
      have HGR0 := Lib.hid hgr0
      clear hset hgr0
      go_loopw [15] (fun iv wr => ∃ (A2 : Option Addr) (cp2 k2 : Nat), (k2 : Int) ≤ n.stops ∧ iv = .int .i64 k2 ∧ Hid (wr.heap[P]? = some (.cells #[.int .i64 n.stops, .slice n_tA n.tracks.length n_tc, .slice A2 (Pl.nums k2).length cp2] 27 (0, 0))) ∧ Hid (OwnInts wr w8.heap.size A2 cp2 (Pl.nums k2)) ∧ Hid (w8.grownBy wr (some P))) (fun i _ => (n.stops - intOf i).toNat)
      case atStart => exact ⟨none, 0, 0, by omega, rfl, HSET, OwnInts.nil _ _, HGR0⟩
      case round =>
        obtain ⟨A2, cp2, k2, hk2, rfl, hbx, hO, hG⟩ := hrel
        clear HSET HGR0
        have hs8 := hG.out.size
        have y0 : wr.cell? ⟨P, 0, none⟩ = some (.int .i64 n.stops) := blk_cell hbx.out 0
        have y2 : wr.cell? ⟨P, 2, none⟩ = some (.slice A2 (Pl.nums k2).length cp2) := blk_cell hbx.out 2
        have hln : (Pl.nums k2).length = k2 := by simp [Pl.nums]
        by_cases hk3 : (k2 : Int) < n.stops
        · have hns : Pl.nums (k2 + 1) = Pl.nums k2 ++ [(k2 : Int)] := by simp [Pl.nums, List.range_succ]
          have HNS := Lib.hid hns
          have HLN := Lib.hid hln
          clear hns hln
          go_wp2_with (at_builtin; refine wpl_app_ints rfl (.tmp 99) (.tmp 101) 22 rfl w8.heap.size Try.underlying22 int_info A2 cp2 (Pl.nums k2) rfl (own_alloc hO.out _) (wr.heap.size + 1) (some ⟨wr.heap.size, 0, none⟩) 1 [(k2 : Int)] rfl (ints_one _ _ _ (by simp) (by omega)) (by rw [HLN.out]; simp; omega) (by simp; omega) ?_; intro A3 c3 w4' hown4 hg4 hat4; have hPx := (hg4.block P (by simp; omega) (fun e => by have := own_from hO.out P e.symm; omega)).trans (blk_alloc hbx.out _); have HPX := Lib.hid hPx; have f4 := blk_frozen hPx 2; have y4 : w4'.cell? ⟨P, 2, none⟩ = some (.slice A2 (Pl.nums k2).length cp2) := blk_cell hPx 2; have HG4 := Lib.hid (grown_own (grown_new hG.out (.cells #[.int .i64 (k2 : Int)] 3)) hg4 (own_from hO.out)); have HO4 := Lib.hid hown4; clear hPx hown4 hg4 hat4)
          go_roundw
          case rel => exact ⟨A3, c3, k2 + 1, by omega, by go_num, (by show _ = _; rw [HNS.out]; have := blk_set (i := 2) HPX.out (.slice A3 ((Pl.nums k2).length + 1) c3); simpa using this), (by show OwnInts _ _ _ _ _; rw [HNS.out]; exact ownsRow_setCell_below HO4.out hP8 _), grown_put HG4.out 2 _⟩
          case measure => simp [intOf]; omega
        · have hke2 : n.stops.toNat = k2 := by omega
          have hsh : Pl.nums k2 = (wide n).shops := by show _ = Pl.nums n.stops.toNat; rw [hke2]
          obtain ⟨w10, rfl⟩ : ∃ w10, w10 = wr := ⟨_, rfl⟩
          rw [hsh] at y2 hln
          have hPQ : P ≠ Q := fun e => by
            have h4 := HPB.out
            have h5 := Dr.out.b5
            rw [e, h5] at h4
            injection h4 with h4
            injection h4 with _ h4 _
            cases h4
          have hP10 : w10.heap[P]? = some (.cells #[.int .i64 n.stops, .slice n_tA n.tracks.length n_tc, .slice A2 (wide n).shops.length cp2] 27 (0, 0)) := by rw [← hsh]; exact hbx.out
          have hQ10 : w10.heap[Q]? = some (.cells #[.slice (some ⟨gb, 0, none⟩) c.gauges.length c_gc, .int .i64 c.size, .int .i64 c.load, .slice c_bA c.brakes.length c_bc, .slice c_hA c.heats.length c_hc, .bool c.hooks] 30 (0, 0)) := (hG.out.block Q hQ8 (fun e => by injection e with e; exact hPQ e.symm)).trans Dr.out.b5
          have hT10 : OwnTrks w10 (w1.heap.size + 2) n_tA n_tc n.tracks := row_other Dr.out.tr hG.out HPB.out (by decide)
          have hcr := Dr.out.creads
          have hn10 : NReads w10 w10.heap.size (wide n) n_tA A2 n_tc cp2 := ⟨hT10.trks, by rw [← hsh]; exact hO.out.ints, by show n.tracks.length ≤ _; have := Dr.out.t8; omega, by rw [hln]; omega⟩
          have hc10 : CReads w10 w10.heap.size c (some ⟨gb, 0, none⟩) c_bA c_hA c_gc c_bc c_hc := ⟨OwnInts.ints (row_other Dr.out.ga hG.out HPB.out (by decide)), OwnInts.ints (row_other Dr.out.br hG.out HPB.out (by decide)), OwnInts.ints (row_other Dr.out.he hG.out HPB.out (by decide)), hcr.lenG, hcr.lenB, hcr.lenH⟩
          have HP10 := Lib.hid hP10
          have HQ10 := Lib.hid hQ10
          have HT10 := Lib.hid hT10
          have HN10 := Lib.hid hn10
          have HC10 := Lib.hid hc10
          have HW10 := Lib.hid (HWr.out.trans (below_of_grown hG.out (B := w.heap.size) (by have := hD0P; omega) HWr.out.size))
          have hT8 := Dr.out.t8
          have HCK := Lib.hid Dr.out.ck
          have hlp := lt_of_block hP10
          have hlq := lt_of_block hQ10
          have y1 : w10.cell? ⟨P, 1, none⟩ = some (.slice n_tA n.tracks.length n_tc) := blk_cell hP10 1
          have x0 : w10.cell? ⟨Q, 0, none⟩ = some (.slice (some ⟨gb, 0, none⟩) c.gauges.length c_gc) := blk_cell hQ10 0
          have x1 : w10.cell? ⟨Q, 1, none⟩ = some (.int .i64 c.size) := blk_cell hQ10 1
          have x2 : w10.cell? ⟨Q, 2, none⟩ = some (.int .i64 c.load) := blk_cell hQ10 2
          have x3 : w10.cell? ⟨Q, 3, none⟩ = some (.slice c_bA c.brakes.length c_bc) := blk_cell hQ10 3
          have x4 : w10.cell? ⟨Q, 4, none⟩ = some (.slice c_hA c.heats.length c_hc) := blk_cell hQ10 4
          have x5 : w10.cell? ⟨Q, 5, none⟩ = some (.bool c.hooks) := blk_cell hQ10 5
          clear hsh hP10 hQ10 hT10 hcr hn10 hc10 hbx hO hG Dr HPB hs8 hln hke2 hPQ
          go_wp2_with fail
          refine (reach_any (wide n) n_tA A2 n_tc cp2 c (some ⟨gb, 0, none⟩) c_bA c_hA c_gc c_bc c_hc fr ga w10 HN10.out HC10.out (question_wide HQ.out)).mono ?_
          rintro e w11 ⟨kA, kc, ks, rfl, _, hmem2, hk24, hIk, hb11⟩
          have HB11 := Lib.hid hb11
          have HM2 := Lib.hid hmem2
          have HIK := Lib.hid hIk
          have hP11 := blk_below HP10.out hb11 hlp
          have hQ11 := blk_below HQ10.out hb11 hlq
          clear y0 y1 y2 x0 x1 x2 x3 x4 x5 hmem2 hIk hb11
          have y0 : w11.cell? ⟨P, 0, none⟩ = some (.int .i64 n.stops) := blk_cell hP11 0
          have y1 : w11.cell? ⟨P, 1, none⟩ = some (.slice n_tA n.tracks.length n_tc) := blk_cell hP11 1
          have y2 : w11.cell? ⟨P, 2, none⟩ = some (.slice A2 (wide n).shops.length cp2) := blk_cell hP11 2
          have x0 : w11.cell? ⟨Q, 0, none⟩ = some (.slice (some ⟨gb, 0, none⟩) c.gauges.length c_gc) := blk_cell hQ11 0
          have x1 : w11.cell? ⟨Q, 1, none⟩ = some (.int .i64 c.size) := blk_cell hQ11 1
          have x2 : w11.cell? ⟨Q, 2, none⟩ = some (.int .i64 c.load) := blk_cell hQ11 2
          have x3 : w11.cell? ⟨Q, 3, none⟩ = some (.slice c_bA c.brakes.length c_bc) := blk_cell hQ11 3
          have x4 : w11.cell? ⟨Q, 4, none⟩ = some (.slice c_hA c.heats.length c_hc) := blk_cell hQ11 4
          have x5 : w11.cell? ⟨Q, 5, none⟩ = some (.bool c.hooks) := blk_cell hQ11 5
          have HP11 := Lib.hid hP11
          have HQ11 := Lib.hid hQ11
          clear hP11 hQ11
          have hopen : Calls Try.prog 50 #[.agg #[.int .i64 n.stops, .slice n_tA n.tracks.length n_tc, .slice A2 (wide n).shops.length cp2], .agg #[.slice (some ⟨gb, 0, none⟩) c.gauges.length c_gc, .int .i64 c.size, .int .i64 c.load, .slice c_bA c.brakes.length c_bc, .slice c_hA c.heats.length c_hc, .bool c.hooks]] w11 (fun e w' => ∃ A cp, e = .returned (.tuple #[.slice A (Pl.openOf n c).length cp, .int .i64 0]) ∧ OwnInts w' w11.heap.size A cp (Pl.openOf n c) ∧ Below w11.heap.size w11 w') := by
            have hop : openOut (wide n) c = (Pl.openOf n c, 0) := by
              have hb := (question_b (question_wide HQ.out)).1
              rw [openOut, if_neg (by simp [hb])]
              rfl
            refine (open_any (wide n) n_tA A2 n_tc cp2 c (some ⟨gb, 0, none⟩) c_bA c_hA c_gc c_bc c_hc w11 ((HN10.out.below HB11.out).more HB11.out.size) ((HC10.out.below HB11.out).more HB11.out.size) (by show n.tracks.length ≤ _; omega)).mono ?_
            rintro e w' ⟨A, cp, h1, h2, h3⟩
            rw [hop] at h1 h2
            exact ⟨A, cp, h1, h2, h3⟩
          have HOPEN := Lib.hid hopen
          have hos : ∀ x ∈ Pl.openOf n c, ∃ i : Nat, x = i ∧ i < n.tracks.length ∧ Pl.barred c (n.tracks.getD i default) = [] := fun x hx => Pl.mem_openOf hx
          have hol : (Pl.openOf n c).length ≤ 8 := Nat.le_trans (openTo_length n c n.tracks.length) hT8
          have HOS := Lib.hid hos
          clear hopen hos
          generalize Pl.openOf n c = os at *
          go_wp2_with fail
          refine HOPEN.out.mono ?_
          rintro e w12 ⟨oA, oc, rfl, hown, hb12⟩
          have HB12 := Lib.hid (HB11.out.trans (hb12.mono HB11.out.size))
          have HOI := Lib.hid hown.ints
          have hP12 := blk_below HP11.out hb12 (lt_of_block HP11.out)
          clear y0 y1 y2 x0 x1 x2 x3 x4 x5 HOPEN HP11 HQ11 HQ10 HC10
          have y0 : w12.cell? ⟨P, 0, none⟩ = some (.int .i64 n.stops) := blk_cell hP12 0
          have y1 : w12.cell? ⟨P, 1, none⟩ = some (.slice n_tA n.tracks.length n_tc) := blk_cell hP12 1
          have y2 : w12.cell? ⟨P, 2, none⟩ = some (.slice A2 (wide n).shops.length cp2) := blk_cell hP12 2
          have HIK := Lib.hid ((HIK.out.below hb12).more hb12.size)
          have HP12 := Lib.hid hP12
          clear hP12 hown hb12
          go_wp2_with fail
          have hlines : Calls Try.prog 42 #[.agg #[.int .i64 n.stops, .slice n_tA n.tracks.length n_tc, .slice A2 (wide n).shops.length cp2], .slice oA os.length oc] w12 (fun e w' => e = .returned (.bool true) ∧ Below w12.heap.size w12 w') :=
            lines_yes (wide n) n_tA A2 n_tc cp2 oA oc os w12 HOI.out (by omega) (fun x hx => by obtain ⟨i, rfl, hi, _⟩ := HOS.out x hx; show 0 ≤ (i : Int) ∧ (i : Int) < (n.tracks.length : Int); omega) (by show n.tracks.length ≤ _; omega)
          refine hlines.mono ?_
          clear hlines
          rintro e w13 ⟨rfl, hb13⟩
          have HB13 := Lib.hid (HB12.out.trans (hb13.mono HB12.out.size))
          have HOI := Lib.hid ((HOI.out.below hb13).more hb13.size)
          have HIK := Lib.hid ((HIK.out.below hb13).more hb13.size)
          have HP13 := Lib.hid (blk_below HP12.out hb13 (lt_of_block HP12.out))
          clear y0 y1 y2 HP12 hb13
          go_wp2_with fail
          go_loopw [20] (fun iv wr => ∃ k3 : Nat, k3 ≤ os.length ∧ iv = .int .i64 k3 ∧ Hid (Below w13.heap.size w13 wr)) (fun i _ => os.length - (intOf i).toNat)
          case atStart => exact ⟨0, by omega, rfl, Below.refl _ _⟩
          case round =>
            obtain ⟨k3, hk3', rfl, hB3⟩ := hrel
            have hs13 := hB3.out.size
            by_cases hkl : k3 < os.length
            · have hkk : (k3 : Int) < (os.length : Int) := by omega
              obtain ⟨i, hoi, hil, hbar⟩ := HOS.out os[k3] (List.getElem_mem hkl)
              obtain ⟨bo, oo, hoA, hbo, hco⟩ := HOI.out k3 os[k3] (List.getElem?_eq_getElem hkl)
              rw [hoi] at hco
              subst hoA
              have hB10 : Below w10.heap.size w10 wr := HB13.out.trans (hB3.out.mono HB13.out.size)
              have hgd : n.tracks.getD i default = n.tracks[i] := by simp [List.getD_eq_getElem?_getD, List.getElem?_eq_getElem hil]
              have hends := ends_wide HQ.out hil hbar
              have hok := trk_in HCK.out hil
              rw [hgd] at hends hok
              obtain ⟨bt, ot, htA, hbt, hct⟩ := HT10.out.trks i n.tracks[i] (List.getElem?_eq_getElem hil)
              subst htA
              obtain ⟨c0, c1, c2, c3, c4, c5, c6, c7, c8⟩ := trk_cells (w := wr) (b := bt) (o := ot + i * 9) (fun j v hv => (hB10.cell (p := ⟨bt, ot + i * 9 + j, none⟩) hbt).trans (hct j v hv))
              have hco' := (hB3.out.cell (p := ⟨bo, oo + k3, none⟩) hbo).trans hco
              have hPr := blk_below HP13.out hB3.out (lt_of_block HP13.out)
              have y1 : wr.cell? ⟨P, 1, none⟩ = some (.slice (some ⟨bt, ot, none⟩) n.tracks.length n_tc) := blk_cell hPr 1
              have hii : (i : Int) < (n.tracks.length : Int) := by omega
              have hbo2 : bo < wr.heap.size := by omega
              have hbt2 : bt < wr.heap.size := Nat.lt_of_lt_of_le hbt hB10.size
              have hPl2 : P < wr.heap.size := lt_of_block hPr
              generalize n.tracks[i] = t at hends hok c0 c1 c2 c3 c4 c5 c6 c7 c8
              have hd : idx ks t.a < 0 ↔ idx ks t.b < 0 := by
                have ha := idx_lt ks t.a
                have hb := idx_lt ks t.b
                rw [HM2.out t.a] at ha
                rw [HM2.out t.b] at hb
                rw [ha, hb, hends]
              have HDD := Lib.hid hd
              have HBR := Lib.hid hB3.out
              have HIKr := Lib.hid ((HIK.out.below hB3.out).more hs13)
              have HWr2 := Lib.hid (HW10.out.trans (hB10.mono HW10.out.size))
              have hsW := HWr2.out.size
              clear hoi hbar hco hB10 hgd hends hok hct hPr hd hB3
              go_wp2_with fail
              go_region
              have hnb := heap_alloc_new wr (.cells #[.int .i64 t.a, .int .i64 t.b, .int .i64 t.km, .int .i64 t.gauge, .int .i64 t.room, .int .i64 t.brake, .int .i64 t.heat, .int .i64 t.load, .bool t.ferry] 47)
              have hb9 : Below wr.heap.size wr (wr.alloc (.cells #[.int .i64 t.a, .int .i64 t.b, .int .i64 t.km, .int .i64 t.gauge, .int .i64 t.room, .int .i64 t.brake, .int .i64 t.heat, .int .i64 t.load, .bool t.ferry] 47)).drew := ((Below.refl _ _).alloc (Nat.le_refl _) _).drew
              replace hnb : (wr.alloc (.cells #[.int .i64 t.a, .int .i64 t.b, .int .i64 t.km, .int .i64 t.gauge, .int .i64 t.room, .int .i64 t.brake, .int .i64 t.heat, .int .i64 t.load, .bool t.ferry] 47)).drew.heap[wr.heap.size]? = some (.cells #[.int .i64 t.a, .int .i64 t.b, .int .i64 t.km, .int .i64 t.gauge, .int .i64 t.room, .int .i64 t.brake, .int .i64 t.heat, .int .i64 t.load, .bool t.ferry] 47 (0, 0)) := hnb
              generalize (wr.alloc (.cells #[.int .i64 t.a, .int .i64 t.b, .int .i64 t.km, .int .i64 t.gauge, .int .i64 t.room, .int .i64 t.brake, .int .i64 t.heat, .int .i64 t.load, .bool t.ferry] 47)).drew = wl at hnb hb9 ⊢
              have e0 : wl.cell? ⟨wr.heap.size, 0, none⟩ = some (.int .i64 t.a) := blk_cell hnb 0
              have e1 : wl.cell? ⟨wr.heap.size, 1, none⟩ = some (.int .i64 t.b) := blk_cell hnb 1
              have HBL := Lib.hid (HBR.out.trans (hb9.mono hs13))
              have HIKl := Lib.hid ((HIKr.out.below hb9).more hb9.size)
              clear hnb hb9 c0 c1 c2 c3 c4 c5 c6 c7 c8 y1 hco'
              go_wp2_with fail
              by_cases hda : idx ks t.a < 0
              · have hdb : idx ks t.b < 0 := HDD.out.1 hda
                go_quiet ((go_at_call 29; exact quiet_left (seat_any kA kc ks _ wl.heap.size _ (HIKl.out.drewN _) (by omega))))
                go_wp2_with fail
                go_roundw
                case rel => exact ⟨k3 + 1, by omega, by go_num, below_drewN HBL.out _⟩
                case measure => simp [intOf]; omega
              · have hdb : ¬ idx ks t.b < 0 := fun h => hda (HDD.out.2 h)
                go_quiet ((go_at_call 29; exact quiet_left (seat_any kA kc ks _ wl.heap.size _ (HIKl.out.drewN _) (by omega))))
                go_wp2_with fail
                go_roundw
                case rel => exact ⟨k3 + 1, by omega, by go_num, below_drewN HBL.out _⟩
                case measure => simp [intOf]; omega
            · obtain rfl : k3 = os.length := by omega
              have HWr2 := Lib.hid (HW10.out.trans ((HB13.out.trans (hB3.out.mono HB13.out.size)).mono HW10.out.size))
              have hkk : ¬ ((os.length : Int) < (os.length : Int)) := by omega
              clear hB3
              go_wp2_with (go_at_call 25; refine (rolling_any _).mono ?_; rintro e w15 ⟨rfl, hb15⟩)
              go_ret
              exact ⟨rfl, HWr2.out.trans (hb15.mono HWr2.out.size)⟩
end Go.Proofs.Ytpbjpochjagicaa
