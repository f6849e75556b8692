/- Walks: LineRenamed (by gen_law4.py). -/
import Derived.Test.YtpbjpochjagicaaW49
import Derived.Test.YtpbjpochjagicaaW63
import Derived.Test.YtpbjpochjagicaaW64
import Derived.Test.YtpbjpochjagicaaW34
import Derived.Test.YtpbjpochjagicaaRq
import Derived.BigQuiet
namespace Go.Proofs.Ytpbjpochjagicaa
open Go.RowKit

set_option maxRecDepth 20000 in
set_option maxHeartbeats 20000000 in
theorem law4 (A : Option Addr) (cp : Nat) (xs : List Int) (w : World) (hx : Ints w w.heap.size A xs) (hl : xs.length ≤ 9223372036854775807) :
    Calls Try.prog 4 #[.slice A xs.length cp] w fun e w' => e = .returned (.bool true) ∧ Below w.heap.size w w' := by
  go_enter Try.func4, Try.ntmps4
  go_wp2_with fail
  refine (newBag_any A cp xs w hx hl).mono ?_
  rintro e w1 ⟨g, rfl, hgw, hb1, hB1⟩
  have HB1 := Lib.hid hB1
  have hg1 := hb1.lt
  go_wp2_with fail
  refine (netOf_any g 5 7 w1 hb1 (by omega) (by omega) (by omega) (by omega)).mono ?_
  rintro e w2 ⟨n, n_tA, n_sA, n_tc, n_sc, rfl, htr, hsh, hn, k12⟩
  have Htr := Lib.hid htr
  have Hsh := Lib.hid hsh
  have Hn := Lib.hid hn
  have K12 := Lib.hid k12
  have b2 := k12.bag
  clear htr hsh hn k12 hB1 hx
  go_wp2_with fail
  refine (coach_any g w2 b2).mono ?_
  rintro e w3 ⟨c, c_gA, c_bA, c_hA, c_gc, c_bc, c_hc, rfl, hga, hbr, hhe, hc, k23⟩
  have Hga := Lib.hid hga
  have Hbr := Lib.hid hbr
  have Hhe := Lib.hid hhe
  have Hc := Lib.hid hc
  have K23 := Lib.hid k23
  clear hga hbr hhe hc k23
  go_wp2_with fail
  have hNb := blk_alloc (heap_alloc_new w3 (.cells #[.int .i64 n.stops, .slice n_tA n.tracks.length n_tc, .slice n_sA n.shops.length n_sc] 27)) (.cells #[.slice c_gA c.gauges.length c_gc, .int .i64 c.size, .int .i64 c.load, .slice c_bA c.brakes.length c_bc, .slice c_hA c.heats.length c_hc, .bool c.hooks] 30)
  have hCb : ((w3.alloc (.cells #[.int .i64 n.stops, .slice n_tA n.tracks.length n_tc, .slice n_sA n.shops.length n_sc] 27)).alloc (.cells #[.slice c_gA c.gauges.length c_gc, .int .i64 c.size, .int .i64 c.load, .slice c_bA c.brakes.length c_bc, .slice c_hA c.heats.length c_hc, .bool c.hooks] 30)).heap[w3.heap.size + 1]? = some (.cells #[.slice c_gA c.gauges.length c_gc, .int .i64 c.size, .int .i64 c.load, .slice c_bA c.brakes.length c_bc, .slice c_hA c.heats.length c_hc, .bool c.hooks] 30 (0, 0)) := by
    have := heap_alloc_new (w3.alloc (.cells #[.int .i64 n.stops, .slice n_tA n.tracks.length n_tc, .slice n_sA n.shops.length n_sc] 27)) (.cells #[.slice c_gA c.gauges.length c_gc, .int .i64 c.size, .int .i64 c.load, .slice c_bA c.brakes.length c_bc, .slice c_hA c.heats.length c_hc, .bool c.hooks] 30)
    simpa using this
  have hb34 : Below w3.heap.size w3 ((w3.alloc (.cells #[.int .i64 n.stops, .slice n_tA n.tracks.length n_tc, .slice n_sA n.shops.length n_sc] 27)).alloc (.cells #[.slice c_gA c.gauges.length c_gc, .int .i64 c.size, .int .i64 c.load, .slice c_bA c.brakes.length c_bc, .slice c_hA c.heats.length c_hc, .bool c.hooks] 30)) := ((Below.refl _ _).alloc (Nat.le_refl _) _).alloc (by simp) _
  have hD := dealt_of n n_tA n_sA n_tc n_sc c c_gA c_bA c_hA c_gc c_bc c_hc hg1 Htr.out Hsh.out Hn.out (by omega) (by omega) K12.out Hga.out Hbr.out Hhe.out Hc.out K23.out hb34 hNb hCb (Nat.le_refl _) (by omega)
  have hW4 : Below w.heap.size w ((w3.alloc (.cells #[.int .i64 n.stops, .slice n_tA n.tracks.length n_tc, .slice n_sA n.shops.length n_sc] 27)).alloc (.cells #[.slice c_gA c.gauges.length c_gc, .int .i64 c.size, .int .i64 c.load, .slice c_bA c.brakes.length c_bc, .slice c_hA c.heats.length c_hc, .bool c.hooks] 30)) := by
    have hs12 := K12.out.size
    have hs23 := K23.out.size
    have hs1 := HB1.out.size
    exact ((HB1.out.trans (K12.out.below hgw hg1)).trans (K23.out.below hgw (by omega))).trans (hb34.mono (by omega))
  clear Htr Hsh Hn K12 Hga Hbr Hhe Hc K23 hb34 hNb hCb b2 HB1
  generalize hQ : w3.heap.size + 1 = Q at hD ⊢
  generalize (w3.alloc (.cells #[.int .i64 n.stops, .slice n_tA n.tracks.length n_tc, .slice n_sA n.shops.length n_sc] 27)).alloc (.cells #[.slice c_gA c.gauges.length c_gc, .int .i64 c.size, .int .i64 c.load, .slice c_bA c.brakes.length c_bc, .slice c_hA c.heats.length c_hc, .bool c.hooks] 30) = w4 at hD hW4 ⊢
  generalize w3.heap.size = P at hD ⊢
  clear hQ
  have HW4 := Lib.hid hW4
  clear hW4
  obtain ⟨gb, hgA, hgb⟩ := hD.gauges
  subst hgA
  have D0 := Lib.hid hD
  have hst1 := hD.st
  have hst6 := hD.st6
  have hng := hD.ng
  have hlg := hD.lg
  have hP := lt_of_block hD.b4
  have hQ := lt_of_block hD.b5
  have hS : w4.drew.cell? ⟨P, 0, none⟩ = some (.int .i64 n.stops) ∧ w4.drew.cell? ⟨Q, 0, none⟩ = some (.slice (some ⟨gb, 0, none⟩) c.gauges.length c_gc) := ⟨hD.drew.ncells.1, hD.drew.ccells.1⟩
  have HW := Lib.hid (IntWalk.i64_in (n.stops - 1) ⟨by omega, by omega⟩)
  clear hD
  go_region_held3 (fun w' => w'.cell? ⟨P, 0, none⟩ = some (.int .i64 n.stops) ∧ w'.cell? ⟨Q, 0, none⟩ = some (.slice (some ⟨gb, 0, none⟩) c.gauges.length c_gc))
    (first | go_keep | exact hS)
    (first
      | (go_at_call 18; rw [HW.out]; refine (up_any g _ _ D0.out.drew.bag (by omega)).mono ?_; rintro e w5 ⟨fr, rfl, hf0, hf1, hB5⟩; have D5 := Lib.hid (D0.out.drew.bagged hB5); have HB5 := Lib.hid hB5; clear hB5; have hS := And.intro D5.out.ncells.1 D5.out.ccells.1)
      | (go_at_call 19; refine (one_any g gb 0 _ c.gauges _ D5.out.bag D5.out.ga.ints hgb hng (by omega)).mono ?_; rintro e w6 ⟨ga, rfl, hgm, hB6⟩; have D6 := Lib.hid (D5.out.bagged hB6); have HB6 := Lib.hid hB6; clear hB6; have hS := And.intro D6.out.ncells.1 D6.out.ccells.1))
  have HW6 := Lib.hid (HW4.out.trans (((((Kb.refl D0.out.bag).drew.bagged HB5.out).bagged HB6.out)).below hgw D0.out.bag.lt))
  clear HW4 HB5 HB6 hS
  have HQ := Lib.hid (D6.out.question hf0 (show fr ≤ n.stops - 1 by omega) hgm)
  have hgB := D6.out.gB
  have hT8 := D6.out.t8
  have h60 := D6.out.ncells.1
  have h61 := D6.out.ncells.2.1
  have hS := And.intro h60 h61
  have hP6 := lt_of_block D6.out.b4
  have tok1 : True := trivial
  clear h60 h61
  go_wp2_with fail
  go_region_held3 (fun W => W.cell? ⟨P, 0, none⟩ = some (.int .i64 n.stops) ∧ W.cell? ⟨P, 1, none⟩ = some (.slice n_tA n.tracks.length n_tc))
    (first | go_keep | exact hS)
    (first
      | (go_at_call 26; have _t := tok1; refine (deal_int g n.stops _ D6.out.drew.bag (by omega) (by omega)).mono ?_; rintro e w8 ⟨pA, pc, ps, rfl, hps, hpm, k8⟩; have D8 := Lib.hid (D6.out.drew.kb k8); have K8 := Lib.hid k8; have HPS := Lib.hid hps; have HPM := Lib.hid hpm; clear hps hpm k8 _t tok1; have hS := And.intro D8.out.ncells.1 D8.out.ncells.2.1)
      | (go_at_call 26; refine (deal_any g n.tracks.length _ D8.out.bag (by omega)).mono ?_; rintro e w9 ⟨qA, qc, qs, rfl, hqs, hqm, k9⟩; have D9 := Lib.hid (D8.out.kb k9); have K9 := Lib.hid k9; have HQS := Lib.hid hqs; have HQM := Lib.hid hqm; clear hqs hqm k9; have hS := And.intro D9.out.ncells.1 D9.out.ncells.2.1))
  have HW9 := Lib.hid (HW6.out.trans (((Kb.refl D6.out.bag).drew.trans (K8.out.trans K9.out)).below hgw D6.out.bag.lt))
  clear hS hP6
  have HPS9 := Lib.hid (K9.out.row D6.out.drew.bag.lt HPS.out)
  have hnc := D9.out.ncells
  have hcc := D9.out.ccells
  obtain ⟨z0, z1, z2⟩ := hnc
  obtain ⟨x0, x1, x2, x3, x4, x5⟩ := hcc
  go_wp2_with fail
  refine (copyNet_any n n_tA n_sA n_tc n_sc w9 D9.out.nreads (by omega) (by have := D9.out.s6; omega)).mono ?_
  rintro e w10 ⟨tA, sA, tc, sc, rfl, hot, hos, hb10⟩
  have D10 := Lib.hid (D9.out.below hb10)
  have HW10 := Lib.hid (HW9.out.trans (hb10.mono HW9.out.size))
  clear z0 z1 z2 x0 x1 x2 x3 x4 x5
  go_wp2_with fail
  have hX := heap_alloc_new w10 (.cells #[.int .i64 n.stops, .slice tA n.tracks.length tc, .slice sA n.shops.length sc] 27)
  have HX := Lib.hid hX
  have HOT := Lib.hid (row_below hot ((Below.refl w10.heap.size w10).alloc (Nat.le_refl _) (.cells #[.int .i64 n.stops, .slice tA n.tracks.length tc, .slice sA n.shops.length sc] 27)) (Nat.le_refl _))
  have HOS := Lib.hid (own_alloc hos (.cells #[.int .i64 n.stops, .slice tA n.tracks.length tc, .slice sA n.shops.length sc] 27))
  have hg9 := D9.out.bag.lt
  have hK9 : Kb g w9 (w10.alloc (.cells #[.int .i64 n.stops, .slice tA n.tracks.length tc, .slice sA n.shops.length sc] 27)) := ((Kb.refl D9.out.bag).step hb10 (Nat.le_refl _) hg9).alloc _
  have HK9 := Lib.hid hK9
  have hs10 := hb10.size
  have HR0 : Hid (RenTo n (fun s => ps.getD s.toNat 0) qs 0 n.tracks) := ⟨rfl, fun j hj => absurd hj (Nat.not_lt_zero j)⟩
  have hql : qs.length = n.tracks.length := HQM.out.len
  obtain ⟨X, hXX⟩ : ∃ X, X = w10.heap.size := ⟨_, rfl⟩
  rw [← hXX] at hX
  rw [← hXX]
  have HX := Lib.hid hX
  have HQL := Lib.hid hql
  have HXX := Lib.hid hXX
  clear hX hot hos hb10 hK9 hql hXX
  go_loopw [11] (fun iv wr => ∃ (i : Nat) (ys : List Pl.Trk), i ≤ n.tracks.length ∧ iv = .int .i64 i ∧ Hid (RenTo n (fun s => ps.getD s.toNat 0) qs i ys) ∧ Hid (OwnTrks wr w9.heap.size tA tc ys) ∧ Hid (wr.heap[X]? = some (.cells #[.int .i64 n.stops, .slice tA n.tracks.length tc, .slice sA n.shops.length sc] 27 (0, 0))) ∧ Hid (OwnInts wr w9.heap.size sA sc n.shops) ∧ Hid (Kb g w9 wr)) (fun i _ => n.tracks.length - (intOf i).toNat)
  case atStart => exact ⟨0, n.tracks, by omega, rfl, HR0, HOT, HX, HOS, HK9⟩
  case round =>
    obtain ⟨i, ys, hi, rfl, hR, hO, hXb, hOS, hK⟩ := hrel
    clear HX HOT HOS HK9 HR0
    have hx := hXb.out
    have Dr := Lib.hid (D9.out.kb hK.out)
    have HPr : Hid (OwnInts wr w6.drew.heap.size pA pc ps) := hK.out.row D6.out.drew.bag.lt HPS9.out
    have HQr : Hid (OwnInts wr w8.heap.size qA qc qs) := hK.out.row D8.out.bag.lt HQS.out
    have y1 : wr.cell? ⟨X, 1, none⟩ = some (.slice tA n.tracks.length tc) := blk_cell hx 1
    have hXl := lt_of_block hx
    by_cases hit : i < n.tracks.length
    · obtain ⟨bt, ot, htA, hbt, hct⟩ := Dr.out.track hit
      subst htA
      have hok := (check_tracks Dr.out.ck).2 (n.tracks.getD i default) (by rw [List.getD_eq_getElem?_getD, List.getElem?_eq_getElem hit]; exact List.getElem_mem hit)
      obtain ⟨t, Ht⟩ : ∃ t, Hid (n.tracks.getD i default = t) := ⟨_, rfl⟩
      rw [Ht.out] at hct hok
      obtain ⟨ta, tb, km, gauge, room, brake, heat, load, ferry⟩ := t
      obtain ⟨a0, a1, b0, b1, _, _, _, _, _⟩ := hok
      dsimp only at a0 a1 b0 b1
      obtain ⟨a, rfl⟩ : ∃ a : Nat, ta = a := ⟨ta.toNat, by omega⟩
      obtain ⟨b, rfl⟩ : ∃ b : Nat, tb = b := ⟨tb.toNat, by omega⟩
      have hpl : ps.length = n.stops.toNat := HPM.out.len
      have hal : a < ps.length := by omega
      have hbl : b < ps.length := by omega
      have hal2 : (a : Int) < (ps.length : Int) := by omega
      have hbl2 : (b : Int) < (ps.length : Int) := by omega
      have hil2 : (i : Int) < (n.tracks.length : Int) := by omega
      have hql := HQL.out
      have hil3 : (i : Int) < (qs.length : Int) := by omega
      have hpe : ∀ k, k < ps.length → ps[k]? = some (ps.getD k 0) := fun k hk => by simp [List.getD_eq_getElem?_getD, List.getElem?_eq_getElem hk]
      obtain ⟨bp, op, hpA, hbp, hca⟩ := HPr.out.ints a (ps.getD a 0) (hpe a hal)
      subst hpA
      obtain ⟨bp2, op2, hpA2, _, hcb⟩ := HPr.out.ints b (ps.getD b 0) (hpe b hbl)
      injection hpA2 with hpA2
      injection hpA2 with e1 e2 _
      subst e1 e2
      obtain ⟨q, hq⟩ : ∃ q : Nat, qs.getD i 0 = q := ⟨(qs.getD i 0).toNat, by have := HQM.out.inn i hit; omega⟩
      have hqe : qs[i]? = some (q : Int) := by rw [← hq]; simp [List.getD_eq_getElem?_getD, List.getElem?_eq_getElem (show i < qs.length by omega)]
      have hqe' := hqe
      have hqn : q < n.tracks.length := by have := HQM.out.inn i hit; omega
      obtain ⟨bq, oq, hqA, hbq, hcq⟩ := HQr.out.ints i (q : Int) hqe
      subst hqA
      have HTA : Hid (TrkAs (fun s => ps.getD s.toNat 0) (n.tracks.getD i default) ⟨ps.getD a 0, ps.getD b 0, km, gauge, room, brake, heat, load, ferry⟩) := ⟨by rw [Ht.out]; exact ⟨rfl, rfl, rfl, rfl, rfl, rfl, rfl⟩, .inl (by rw [Ht.out]; exact ⟨by simp, by simp⟩)⟩
      have HTB : Hid (TrkAs (fun s => ps.getD s.toNat 0) (n.tracks.getD i default) ⟨ps.getD b 0, ps.getD a 0, km, gauge, room, brake, heat, load, ferry⟩) := ⟨by rw [Ht.out]; exact ⟨rfl, rfl, rfl, rfl, rfl, rfl, rfl⟩, .inr (by rw [Ht.out]; exact ⟨by simp, by simp⟩)⟩
      have HQQ := Lib.hid hq
      have HA := Lib.hid hca
      have HB := Lib.hid hcb
      have HCQ := Lib.hid hcq
      obtain ⟨c0, c1, c2, c3, c4, c5, c6, c7, c8⟩ := trk_cells (w := wr) (b := bt) (o := ot + i * 9) (fun j v hv => hct j v hv)
      have p1 := Dr.out.ncells.2.1
      generalize ps.getD a 0 = pa at *
      generalize ps.getD b 0 = pb at *
      clear hct hpe hqe hq hca hcb hcq hx hpl hql
      go_wp2_with fail
      have hT := heap_alloc_new wr (.cells #[.int .i64 (a : Int), .int .i64 (b : Int), .int .i64 km, .int .i64 gauge, .int .i64 room, .int .i64 brake, .int .i64 heat, .int .i64 load, .bool ferry] 47)
      have hKl : Kb g w9 (wr.alloc (.cells #[.int .i64 (a : Int), .int .i64 (b : Int), .int .i64 km, .int .i64 gauge, .int .i64 room, .int .i64 brake, .int .i64 heat, .int .i64 load, .bool ferry] 47)) := hK.out.alloc _
      have hBl : Below wr.heap.size wr (wr.alloc (.cells #[.int .i64 (a : Int), .int .i64 (b : Int), .int .i64 km, .int .i64 gauge, .int .i64 room, .int .i64 brake, .int .i64 heat, .int .i64 load, .bool ferry] 47)) := (Below.refl _ _).alloc (Nat.le_refl _) _
      generalize wr.alloc (.cells #[.int .i64 (a : Int), .int .i64 (b : Int), .int .i64 km, .int .i64 gauge, .int .i64 room, .int .i64 brake, .int .i64 heat, .int .i64 load, .bool ferry] 47) = wl at hT hKl hBl ⊢
      have HT := Lib.hid hT
      have HKl := Lib.hid hKl
      have HBl := Lib.hid hBl
      have hsl := hBl.size
      have hTl := lt_of_block hT
      have e0 : wl.cell? ⟨wr.heap.size, 0, none⟩ = some (.int .i64 (a : Int)) := blk_cell hT 0
      have e1 : wl.cell? ⟨wr.heap.size, 1, none⟩ = some (.int .i64 (b : Int)) := blk_cell hT 1
      have f0 := blk_frozen hT 0
      have f1 := blk_frozen hT 1
      have ea := (hBl.cell (p := ⟨bp, op + a, none⟩) hbp).trans HA.out
      have eb := (hBl.cell (p := ⟨bp, op + b, none⟩) hbp).trans HB.out
      have hbpT : ¬ bp = wr.heap.size := by omega
      have hbp2 : bp < wl.heap.size := by omega
      clear c0 c1 c2 c3 c4 c5 c6 c7 c8 p1 hT hKl hBl y1
      go_region
      have hBm : Below wr.heap.size wr ((wl.setCell ⟨wr.heap.size, 0, none⟩ (.int .i64 pa)).setCell ⟨wr.heap.size, 1, none⟩ (.int .i64 pb)).drew := ((HBl.out.setCell (Nat.le_refl _) _).setCell (Nat.le_refl _) _).drew
      have hTm : ((wl.setCell ⟨wr.heap.size, 0, none⟩ (.int .i64 pa)).setCell ⟨wr.heap.size, 1, none⟩ (.int .i64 pb)).drew.heap[wr.heap.size]? = some (.cells #[.int .i64 pa, .int .i64 pb, .int .i64 km, .int .i64 gauge, .int .i64 room, .int .i64 brake, .int .i64 heat, .int .i64 load, .bool ferry] 47 (0, 0)) := by
        have := blk_set (i := 1) (blk_set (i := 0) HT.out (.int .i64 pa)) (.int .i64 pb)
        simp at this
        exact this
      generalize ((wl.setCell ⟨wr.heap.size, 0, none⟩ (.int .i64 pa)).setCell ⟨wr.heap.size, 1, none⟩ (.int .i64 pb)).drew = wm at hBm hTm ⊢
      have hKm := hK.out.step hBm hK.out.size hg9
      have hOm : OwnTrks wm w9.heap.size tA tc ys := row_below hO.out hBm (Nat.le_refl _)
      have hOSm : OwnInts wm w9.heap.size sA sc n.shops := row_below hOS.out hBm (Nat.le_refl _)
      have hXm := blk_below hXb.out hBm hXl
      have HTm := Lib.hid hTm
      have HKm := Lib.hid hKm
      have HOm := Lib.hid hOm
      have HOSm := Lib.hid hOSm
      have HXm := Lib.hid hXm
      have hsm := hBm.size
      have hTl2 := lt_of_block hTm
      have hK9s := hK.out.size
      obtain ⟨rb, rfl, hrb9, hrbl, hrbX⟩ : ∃ rb, tA = some ⟨rb, 0, none⟩ ∧ w9.heap.size ≤ rb ∧ rb < wr.heap.size ∧ X ≠ rb := by
        rcases hO.out.2 with ⟨_, h2⟩ | ⟨rb, cap, cur, hv, h1, hh, _⟩
        · exact absurd h2 (by rw [hR.out.len]; omega)
        · injection hv with hv _ _
          refine ⟨rb, hv, h1, lt_of_block hh, fun e => ?_⟩
          have hb := hXb.out
          rw [e, hh] at hb
          injection hb with hb
          injection hb with _ hb _
          cases hb
      have HQE := Lib.hid hqe'
      have hqy : q < ys.length := by rw [hR.out.len]; exact hqn
      clear e0 e1 f0 f1 ea eb hbpT hbp2 HT HKl HBl hsl hTl hBm hTm hKm hOm hOSm hXm
      go_wp2_with fail
      refine (chance_any g _ _ wm HKm.out.bag (by omega) (by omega)).mono ?_
      rintro e wc ⟨bb, rfl, hBc⟩
      have hkc := hBc.kb HKm.out
      have hKc : Kb g w9 wc := HKm.out.trans hkc
      have hOc : OwnTrks wc w9.heap.size (some ⟨rb, 0, none⟩) tc ys := hkc.row hg9 HOm.out
      have hOSc : OwnInts wc w9.heap.size sA sc n.shops := hkc.row hg9 HOSm.out
      have hgT : wr.heap.size ≠ g := by omega
      have hgX : X ≠ g := by have := HXX.out; omega
      have hTc := (hkc.block hTl2 hgT).trans HTm.out
      have hXc := (hkc.block (lt_of_block HXm.out) hgX).trans HXm.out
      have hsc := hkc.size
      have HOSc := Lib.hid hOSc
      have HKc := Lib.hid hKc
      have HOc := Lib.hid hOc
      have HTc := Lib.hid hTc
      have HXc := Lib.hid hXc
      clear hkc hBc HTm HKm HOm HOSm HXm hKc hOc hOSc hTc hXc
      cases bb
      · go_wp2_with fail
        have hTW := HTc.out
        have hXW := HXc.out
        have hKW := HKc.out
        have hOW := HOc.out
        have hSW := HOSc.out
        have y1 : wc.cell? ⟨X, 1, none⟩ = some (.slice (some ⟨rb, 0, none⟩) n.tracks.length tc) := blk_cell hXW 1
        have ecq : wc.cell? ⟨bq, oq + i, none⟩ = some (.int .i64 (q : Int)) := by
          obtain ⟨_, _, e, _, h⟩ := OwnInts.ints (hKW.row D8.out.bag.lt HQS.out) i (q : Int) HQE.out
          injection e with e
          injection e with e1 e2 _
          subst e1 e2
          exact h
        have t0 : wc.cell? ⟨wr.heap.size, 0, none⟩ = some (.int .i64 pa) := blk_cell hTW 0
        have t1 : wc.cell? ⟨wr.heap.size, 1, none⟩ = some (.int .i64 pb) := blk_cell hTW 1
        have t2 : wc.cell? ⟨wr.heap.size, 2, none⟩ = some (.int .i64 km) := blk_cell hTW 2
        have t3 : wc.cell? ⟨wr.heap.size, 3, none⟩ = some (.int .i64 gauge) := blk_cell hTW 3
        have t4 : wc.cell? ⟨wr.heap.size, 4, none⟩ = some (.int .i64 room) := blk_cell hTW 4
        have t5 : wc.cell? ⟨wr.heap.size, 5, none⟩ = some (.int .i64 brake) := blk_cell hTW 5
        have t6 : wc.cell? ⟨wr.heap.size, 6, none⟩ = some (.int .i64 heat) := blk_cell hTW 6
        have t7 : wc.cell? ⟨wr.heap.size, 7, none⟩ = some (.int .i64 load) := blk_cell hTW 7
        have t8 : wc.cell? ⟨wr.heap.size, 8, none⟩ = some (.bool ferry) := blk_cell hTW 8
        obtain ⟨r0, r1, r2, r3, r4, r5, r6, r7, r8, s0, s1, s2, s3, s4, s5, s6, s7, s8⟩ := row_nine hOW hqy
        have hqn2 : (q : Int) < (n.tracks.length : Int) := by omega
        have hil3 : (i : Int) < (qs.length : Int) := by have := HQL.out; omega
        have HOW := Lib.hid hOW
        have HXW := Lib.hid hXW
        have HKW := Lib.hid hKW
        have HSW := Lib.hid hSW
        clear hOW hXW hKW hTW hSW
        go_region
        have hput := trks_put HOW.out hqy ⟨pa, pb, km, gauge, room, brake, heat, load, ferry⟩
        dsimp only at hput
        have hdr : ∃ w6, w6 = (((((((((wc.setCell ⟨rb, q * 9, none⟩ (.int .i64 pa)).setCell ⟨rb, q * 9 + 1, none⟩ (.int .i64 pb)).setCell ⟨rb, q * 9 + 2, none⟩ (.int .i64 km)).setCell ⟨rb, q * 9 + 3, none⟩ (.int .i64 gauge)).setCell ⟨rb, q * 9 + 4, none⟩ (.int .i64 room)).setCell ⟨rb, q * 9 + 5, none⟩ (.int .i64 brake)).setCell ⟨rb, q * 9 + 6, none⟩ (.int .i64 heat)).setCell ⟨rb, q * 9 + 7, none⟩ (.int .i64 load)).setCell ⟨rb, q * 9 + 8, none⟩ (.bool ferry)) := ⟨_, rfl⟩
        obtain ⟨w6, hw6⟩ := hdr
        rw [← hw6] at hput ⊢
        clear hw6
        have hRn : Hid (RenTo n (fun s => ps.getD s.toNat 0) qs (i + 1) (ys.set q ⟨pa, pb, km, gauge, room, brake, heat, load, ferry⟩)) := hR.out.step HQM.out hit HQQ.out HTA.out
        obtain ⟨_, hrbb⟩ := rt_block HOW.out
        have hO2 := Lib.hid hput.1
        have hX2 := Lib.hid ((hput.2.block X (by omega) (fun e => by injection e with e; exact hrbX e)).trans HXW.out)
        have hS2 : Hid (OwnInts w6 w9.heap.size sA sc n.shops) := rt_other HSW.out hput.2 hrbb (by decide)
        have hK2 := Lib.hid (HKW.out.grow hput.2 (fun k hk => by injection hk with hk; omega) hg9).drew
        clear hput hrbb r0 r1 r2 r3 r4 r5 r6 r7 r8 s0 s1 s2 s3 s4 s5 s6 s7 s8 t0 t1 t2 t3 t4 t5 t6 t7 t8 ecq y1
        go_wp2_with fail
        go_roundw
        case rel => exact ⟨i + 1, ys.set q ⟨pa, pb, km, gauge, room, brake, heat, load, ferry⟩, by omega, by go_num, hRn, (by exact hO2.out), (by exact hX2.out), (by exact hS2.out), (by exact hK2.out)⟩
        case measure => simp [intOf]; omega
      · have e0 : wc.cell? ⟨wr.heap.size, 0, none⟩ = some (.int .i64 pa) := blk_cell HTc.out 0
        have e1 : wc.cell? ⟨wr.heap.size, 1, none⟩ = some (.int .i64 pb) := blk_cell HTc.out 1
        have f0 := blk_frozen HTc.out 0
        have f1 := blk_frozen HTc.out 1
        go_wp2_with fail
        have hbW : Below wr.heap.size wc ((wc.setCell ⟨wr.heap.size, 0, none⟩ (.int .i64 pb)).setCell ⟨wr.heap.size, 1, none⟩ (.int .i64 pa)) := ((Below.refl wr.heap.size wc).setCell (Nat.le_refl _) _).setCell (Nat.le_refl _) _
        have hTW : ((wc.setCell ⟨wr.heap.size, 0, none⟩ (.int .i64 pb)).setCell ⟨wr.heap.size, 1, none⟩ (.int .i64 pa)).heap[wr.heap.size]? = some (.cells #[.int .i64 pb, .int .i64 pa, .int .i64 km, .int .i64 gauge, .int .i64 room, .int .i64 brake, .int .i64 heat, .int .i64 load, .bool ferry] 47 (0, 0)) := by
          have := blk_set (i := 1) (blk_set (i := 0) HTc.out (.int .i64 pb)) (.int .i64 pa)
          simp at this
          exact this
        have hrbT : (Value.slice (some ⟨rb, 0, none⟩) ys.length tc).ownBlock ≠ some wr.heap.size := by simp [Value.ownBlock]; omega
        have hOW : OwnTrks ((wc.setCell ⟨wr.heap.size, 0, none⟩ (.int .i64 pb)).setCell ⟨wr.heap.size, 1, none⟩ (.int .i64 pa)) w9.heap.size (some ⟨rb, 0, none⟩) tc ys := ownsRow_setCell_other (ownsRow_setCell_other HOc.out hrbT _) hrbT _
        have hSW : OwnInts ((wc.setCell ⟨wr.heap.size, 0, none⟩ (.int .i64 pb)).setCell ⟨wr.heap.size, 1, none⟩ (.int .i64 pa)) w9.heap.size sA sc n.shops := rt_other HOSc.out (rt_put (rt_put (World.grownBy.refl _ _) 0 _) 1 _) HTc.out (by decide)
        have hXW := blk_below HXc.out hbW hXl
        have hKW := HKc.out.step hbW hK9s hg9
        have hsz5 := hbW.size
        clear hbW hrbT e0 e1 f0 f1
        generalize ((wc.setCell ⟨wr.heap.size, 0, none⟩ (.int .i64 pb)).setCell ⟨wr.heap.size, 1, none⟩ (.int .i64 pa)) = w5 at hTW hOW hSW hXW hKW hsz5 ⊢
        have y1 : w5.cell? ⟨X, 1, none⟩ = some (.slice (some ⟨rb, 0, none⟩) n.tracks.length tc) := blk_cell hXW 1
        have ecq : w5.cell? ⟨bq, oq + i, none⟩ = some (.int .i64 (q : Int)) := by
          obtain ⟨_, _, e, _, h⟩ := OwnInts.ints (hKW.row D8.out.bag.lt HQS.out) i (q : Int) HQE.out
          injection e with e
          injection e with e1 e2 _
          subst e1 e2
          exact h
        have t0 : w5.cell? ⟨wr.heap.size, 0, none⟩ = some (.int .i64 pb) := blk_cell hTW 0
        have t1 : w5.cell? ⟨wr.heap.size, 1, none⟩ = some (.int .i64 pa) := blk_cell hTW 1
        have t2 : w5.cell? ⟨wr.heap.size, 2, none⟩ = some (.int .i64 km) := blk_cell hTW 2
        have t3 : w5.cell? ⟨wr.heap.size, 3, none⟩ = some (.int .i64 gauge) := blk_cell hTW 3
        have t4 : w5.cell? ⟨wr.heap.size, 4, none⟩ = some (.int .i64 room) := blk_cell hTW 4
        have t5 : w5.cell? ⟨wr.heap.size, 5, none⟩ = some (.int .i64 brake) := blk_cell hTW 5
        have t6 : w5.cell? ⟨wr.heap.size, 6, none⟩ = some (.int .i64 heat) := blk_cell hTW 6
        have t7 : w5.cell? ⟨wr.heap.size, 7, none⟩ = some (.int .i64 load) := blk_cell hTW 7
        have t8 : w5.cell? ⟨wr.heap.size, 8, none⟩ = some (.bool ferry) := blk_cell hTW 8
        obtain ⟨r0, r1, r2, r3, r4, r5, r6, r7, r8, s0, s1, s2, s3, s4, s5, s6, s7, s8⟩ := row_nine hOW hqy
        have hqn2 : (q : Int) < (n.tracks.length : Int) := by omega
        have hil3 : (i : Int) < (qs.length : Int) := by have := HQL.out; omega
        have HOW := Lib.hid hOW
        have HXW := Lib.hid hXW
        have HKW := Lib.hid hKW
        have HSW := Lib.hid hSW
        clear hOW hXW hKW hTW hSW
        go_region
        have hput := trks_put HOW.out hqy ⟨pb, pa, km, gauge, room, brake, heat, load, ferry⟩
        dsimp only at hput
        have hdr : ∃ w6, w6 = (((((((((w5.setCell ⟨rb, q * 9, none⟩ (.int .i64 pb)).setCell ⟨rb, q * 9 + 1, none⟩ (.int .i64 pa)).setCell ⟨rb, q * 9 + 2, none⟩ (.int .i64 km)).setCell ⟨rb, q * 9 + 3, none⟩ (.int .i64 gauge)).setCell ⟨rb, q * 9 + 4, none⟩ (.int .i64 room)).setCell ⟨rb, q * 9 + 5, none⟩ (.int .i64 brake)).setCell ⟨rb, q * 9 + 6, none⟩ (.int .i64 heat)).setCell ⟨rb, q * 9 + 7, none⟩ (.int .i64 load)).setCell ⟨rb, q * 9 + 8, none⟩ (.bool ferry)) := ⟨_, rfl⟩
        obtain ⟨w6, hw6⟩ := hdr
        rw [← hw6] at hput ⊢
        clear hw6
        have hRn : Hid (RenTo n (fun s => ps.getD s.toNat 0) qs (i + 1) (ys.set q ⟨pb, pa, km, gauge, room, brake, heat, load, ferry⟩)) := hR.out.step HQM.out hit HQQ.out HTB.out
        obtain ⟨_, hrbb⟩ := rt_block HOW.out
        have hO2 := Lib.hid hput.1
        have hX2 := Lib.hid ((hput.2.block X (by omega) (fun e => by injection e with e; exact hrbX e)).trans HXW.out)
        have hS2 : Hid (OwnInts w6 w9.heap.size sA sc n.shops) := rt_other HSW.out hput.2 hrbb (by decide)
        have hK2 := Lib.hid (HKW.out.grow hput.2 (fun k hk => by injection hk with hk; omega) hg9).drew
        clear hput hrbb r0 r1 r2 r3 r4 r5 r6 r7 r8 s0 s1 s2 s3 s4 s5 s6 s7 s8 t0 t1 t2 t3 t4 t5 t6 t7 t8 ecq y1
        go_wp2_with fail
        go_roundw
        case rel => exact ⟨i + 1, ys.set q ⟨pb, pa, km, gauge, room, brake, heat, load, ferry⟩, by omega, by go_num, hRn, (by exact hO2.out), (by exact hX2.out), (by exact hS2.out), (by exact hK2.out)⟩
        case measure => simp [intOf]; omega
    · have hie : i = n.tracks.length := by omega
      have hRf : Hid (RenTo n (fun s => ps.getD s.toNat 0) qs n.tracks.length ys) := by rw [← hie]; exact hR.out
      have hni : ¬ (i : Int) < (qs.length : Int) := by have := HQL.out; omega
      obtain ⟨w12, rfl⟩ : ∃ w12, w12 = wr := ⟨_, rfl⟩
      have y2 : w12.cell? ⟨X, 2, none⟩ = some (.slice sA n.shops.length sc) := blk_cell hx 2
      have f2 := blk_frozen hx 2
      have hK9s := hK.out.size
      clear hx hie hit hi hR hOS y1
      go_wp2_with fail
      clear y2 f2 hni
      have hset : (w12.setCell ⟨X, 2, none⟩ (.slice none 0 0)).heap[X]? = some (.cells #[.int .i64 n.stops, .slice tA n.tracks.length tc, .slice none 0 0] 27 (0, 0)) := by
        have := blk_set (i := 2) hXb.out (.slice none 0 0)
        simpa using this
      have HSET := Lib.hid hset
      have HGR0 := Lib.hid (rt_put (World.grownBy.refl w12 (some X)) 2 (.slice none 0 0))
      have hX9 : w9.heap.size ≤ X := by have := HXX.out; omega
      clear hset
      go_loopw [13] (fun iv wr => ∃ (A2 : Option Addr) (cp2 k2 : Nat), (k2 : Int) ≤ n.stops ∧ iv = .int .i64 k2 ∧ Hid (wr.heap[X]? = some (.cells #[.int .i64 n.stops, .slice tA n.tracks.length tc, .slice A2 (shopsTo n.shops ps k2).length cp2] 27 (0, 0))) ∧ Hid (OwnInts wr w12.heap.size A2 cp2 (shopsTo n.shops ps k2)) ∧ Hid (w12.grownBy wr (some X))) (fun i _ => (n.stops - intOf i).toNat)
      case atStart => exact ⟨none, 0, 0, by omega, rfl, HSET, OwnInts.nil _ _, HGR0⟩
      case round =>
        obtain ⟨A2, cp2, k2, hk2, rfl, hbx, hO2, hG⟩ := hrel
        clear HSET HGR0
        have hKr := hK.out.grow hG.out (fun k hk => by injection hk with hk; omega) hg9
        have Dr2 := Lib.hid (D9.out.kb hKr)
        have hsr := hG.out.size
        have HKr := Lib.hid hKr
        have HPr2 : Hid (OwnInts wr w6.drew.heap.size pA pc ps) := hKr.row D6.out.drew.bag.lt HPS9.out
        have hXl2 := lt_of_block hbx.out
        by_cases hk3 : (k2 : Int) < n.stops
        · have HPI := Lib.hid HPr2.out.ints
          have HSI := Lib.hid Dr2.out.nreads.shops
          have hps6 : ps.length ≤ 9223372036854775807 := by have := HPM.out.len; omega
          have hsh6 : n.shops.length ≤ 9223372036854775807 := by have := Dr2.out.s6; omega
          have hnc := Dr2.out.ncells
          have hcc := Dr2.out.ccells
          obtain ⟨z0, z1, z2⟩ := hnc
          obtain ⟨x0, x1, x2, x3, x4, x5⟩ := hcc
          have y2 : wr.cell? ⟨X, 2, none⟩ = some (.slice A2 (shopsTo n.shops ps k2).length cp2) := blk_cell hbx.out 2
          have f2 := blk_frozen hbx.out 2
          clear hKr
          by_cases hin : 0 ≤ idx n.shops (idx ps (k2 : Int))
          · go_wp2_with fail
            go_quiet (first | (go_at_call 29; with_reducible refine quiet_left (seat_any pA pc ps _ wr.heap.size _ ?_ hps6); exact HPI.out.drewN _) | (go_at_call 29; with_reducible refine quiet_left (seat_any n_sA n_sc n.shops _ wr.heap.size _ ?_ hsh6); exact HSI.out.drewN _))
            have hb3 : (wr.drewN nq).heap[X]? = some (.cells #[.int .i64 n.stops, .slice tA n.tracks.length tc, .slice A2 (shopsTo n.shops ps k2).length cp2] 27 (0, 0)) := hbx.out
            have hO3 : OwnInts (wr.drewN nq) w12.heap.size A2 cp2 (shopsTo n.shops ps k2) := hO2.out
            have hG3 := rt_drewN hG.out nq
            have hsd : (wr.drewN nq).heap.size = wr.heap.size := rfl
            generalize wr.drewN nq = wd at hb3 hO3 hG3 hsd ⊢
            have y2 : wd.cell? ⟨X, 2, none⟩ = some (.slice A2 (shopsTo n.shops ps k2).length cp2) := blk_cell hb3 2
            have f2 := blk_frozen hb3 2
            have HB3 := Lib.hid hb3
            have HO3 := Lib.hid hO3
            have HG3 := Lib.hid hG3
            have hXd := lt_of_block hb3
            have hXw : X < w12.heap.size := lt_of_block hXb.out
            have hs12 : w12.heap.size ≤ wd.heap.size := by omega
            have hll := shopsTo_len n.shops ps k2
            have HNS := Lib.hid (shopsTo_in hin)
            have hst6b := D9.out.st6
            clear z0 z1 z2 x0 x1 x2 x3 x4 x5 hb3 hO3 hG3 hin hsd
            go_wp2_with (at_builtin; refine wpl_app_ints rfl (.tmp 101) (.tmp 103) 22 rfl w12.heap.size Try.underlying22 int_info A2 cp2 (shopsTo n.shops ps k2) rfl (own_alloc HO3.out _) (wd.heap.size + 1) (some ⟨wd.heap.size, 0, none⟩) 1 [(k2 : Int)] rfl (ints_one _ _ _ (by simp) (by omega)) (by simp; omega) (by simp; omega) ?_; intro A3 c3 w4' hown4 hg4 hat4; have hPx := (hg4.block X (by simp; omega) (fun e => by have := own_from HO3.out X e.symm; omega)).trans (blk_alloc HB3.out _); have HPX := Lib.hid hPx; have f4 := blk_frozen hPx 2; have y4 : w4'.cell? ⟨X, 2, none⟩ = some (.slice A2 (shopsTo n.shops ps k2).length cp2) := blk_cell hPx 2; have HG4 := Lib.hid (rt_own (rt_new HG3.out (.cells #[.int .i64 (k2 : Int)] 3)) hg4 (own_from HO3.out)); have HO4 := Lib.hid hown4; clear hPx hown4 hg4 hat4)
            go_roundw
            case rel => exact ⟨A3, c3, k2 + 1, by omega, by go_num, (by show _ = _; rw [HNS.out]; have := blk_set (i := 2) HPX.out (.slice A3 ((shopsTo n.shops ps k2).length + 1) c3); simpa using this), (by show OwnInts _ _ _ _ _; rw [HNS.out]; exact ownsRow_setCell_below HO4.out hXw _), rt_put HG4.out 2 _⟩
            case measure => simp [intOf]; omega
          · go_wp2_with fail
            go_quiet (first | (go_at_call 29; with_reducible refine quiet_left (seat_any pA pc ps _ wr.heap.size _ ?_ hps6); exact HPI.out.drewN _) | (go_at_call 29; with_reducible refine quiet_left (seat_any n_sA n_sc n.shops _ wr.heap.size _ ?_ hsh6); exact HSI.out.drewN _))
            have HNS := Lib.hid (shopsTo_out (shops := n.shops) (ps := ps) (k := k2) (by omega))
            have hin2 : ¬ 0 ≤ idx n.shops (idx ps (k2 : Int)) := by omega
            have hin3 : idx n.shops (idx ps (k2 : Int)) < 0 := by omega
            go_wp2_with fail
            go_roundw
            case rel => exact ⟨A2, cp2, k2 + 1, by omega, by go_num, (by show _ = _; rw [HNS.out]; exact hbx.out), (by show OwnInts _ _ _ _ _; rw [HNS.out]; exact hO2.out), rt_drewN hG.out _⟩
            case measure => simp [intOf]; omega
        · have hke : n.stops.toNat = k2 := by omega
          obtain ⟨w13, rfl⟩ : ∃ w13, w13 = wr := ⟨_, rfl⟩
          rw [← hke] at hbx hO2
          have hlen : ys.length = n.tracks.length := hRf.out.len
          have hx13 : w13.heap[X]? = some (.cells #[.int .i64 n.stops, .slice tA ys.length tc, .slice A2 (shopsTo n.shops ps n.stops.toNat).length cp2] 27 (0, 0)) := by rw [hlen]; exact hbx.out
          have ho13 : OwnTrks w13 w9.heap.size tA tc ys := rt_other hO.out hG.out hXb.out (by decide)
          have hll := shopsTo_len n.shops ps n.stops.toNat
          have hst6b := D9.out.st6
          have hcx := check_ren HPM.out HQM.out hRf.out D9.out.ck (by omega) (by omega) hT8
          have hn13 : NReads w13 w13.heap.size ⟨n.stops, ys, shopsTo n.shops ps n.stops.toNat⟩ tA A2 tc cp2 := ⟨ho13.trks, hO2.out.ints, by show ys.length ≤ _; omega, by show (shopsTo n.shops ps n.stops.toNat).length ≤ _; omega⟩
          have HX13 := Lib.hid hx13
          have HN13 := Lib.hid hn13
          have HCX := Lib.hid hcx
          have HW13 := Lib.hid (HW9.out.trans (HKr.out.below hgw hg9))
          have hni2 : ¬ (k2 : Int) < n.stops := hk3
          have hfr2 : fr ≤ n.stops - 1 := by omega
          have hsps : ps.length = n.stops.toNat := HPM.out.len
          have hfp : fr.toNat < ps.length := by omega
          obtain ⟨fn, rfl⟩ : ∃ fn : Nat, fr = fn := ⟨fr.toNat, by omega⟩
          rw [Int.toNat_natCast] at hfp
          have hXl13 := lt_of_block hx13
          have HSPS := Lib.hid hsps
          clear hx13 ho13 hn13 hcx hll hlen hbx hO2 hG hKr hke hsps
          have hnc := Dr2.out.ncells
          have hcc := Dr2.out.ccells
          obtain ⟨z0, z1, z2⟩ := hnc
          obtain ⟨x0, x1, x2, x3, x4, x5⟩ := hcc
          go_wp2_with fail
          clear z0 z1 z2 x0 x1 x2 x3 x4 x5 hni2
          go_loopw [14] (fun iv wr => ∃ k3 : Nat, (k3 : Int) ≤ n.stops ∧ iv = .int .i64 k3 ∧ Hid (Below w13.heap.size w13 wr)) (fun i _ => (n.stops - intOf i).toNat)
          case atStart => exact ⟨0, by omega, rfl, Below.refl _ _⟩
          case round =>
            obtain ⟨k3, hk4, rfl, hB⟩ := hrel
            have Dr3 := Lib.hid (Dr2.out.below hB.out)
            have hs13 := hB.out.size
            by_cases hk5 : (k3 : Int) < n.stops
            · have HAk := Lib.hid (asked_at (ds := (k3 : Int)) HQ.out (by omega) (by omega))
              have hnc := Dr3.out.ncells
              have hcc := Dr3.out.ccells
              obtain ⟨z0, z1, z2⟩ := hnc
              obtain ⟨x0, x1, x2, x3, x4, x5⟩ := hcc
              go_wp2_with fail
              refine (wayok_any n n_tA n_sA n_tc n_sc c (some ⟨gb, 0, none⟩) c_bA c_hA c_gc c_bc c_hc (fn : Int) ga (k3 : Int) wr Dr3.out.nreads Dr3.out.creads HAk.out).mono ?_
              rintro e wa ⟨wA, wl, wc2, km, v, rfl, hba, _, hno, hyes⟩
              have hBA := hB.out.trans (hba.mono hs13)
              have hKa : Kb g w9 wa := HKr.out.step hBA HKr.out.size hg9
              have Da := Lib.hid (Dr2.out.below hBA)
              have hpsa : OwnInts wa w6.drew.heap.size pA pc ps := hKa.row D6.out.drew.bag.lt HPS9.out
              have hsps := HSPS.out
              have hk3p : k3 < ps.length := by omega
              have hpe : ∀ k, k < ps.length → ps[k]? = some (ps.getD k 0) := fun k hk => by simp [List.getD_eq_getElem?_getD, List.getElem?_eq_getElem hk]
              obtain ⟨bp, op, hpA, hbp, hca⟩ := hpsa.ints fn (ps.getD fn 0) (hpe fn hfp)
              obtain ⟨bp2, op2, hpA2, _, hcb⟩ := hpsa.ints k3 (ps.getD k3 0) (hpe k3 hk3p)
              rw [hpA] at hpA2
              injection hpA2 with hpA2
              injection hpA2 with e1 e2 _
              subst e1 e2
              subst hpA
              have hxa := blk_below HX13.out hBA hXl13
              have hsa := hBA.size
              have hkeep : ∀ W, Below wa.heap.size wa W → (W.cell? ⟨X, 0, none⟩ = some (.int .i64 n.stops) ∧ W.cell? ⟨X, 1, none⟩ = some (.slice tA ys.length tc) ∧ W.cell? ⟨X, 2, none⟩ = some (.slice A2 (shopsTo n.shops ps n.stops.toNat).length cp2)) ∧ (W.cell? ⟨Q, 0, none⟩ = some (.slice (some ⟨gb, 0, none⟩) c.gauges.length c_gc) ∧ W.cell? ⟨Q, 1, none⟩ = some (.int .i64 c.size) ∧ W.cell? ⟨Q, 2, none⟩ = some (.int .i64 c.load) ∧ W.cell? ⟨Q, 3, none⟩ = some (.slice c_bA c.brakes.length c_bc) ∧ W.cell? ⟨Q, 4, none⟩ = some (.slice c_hA c.heats.length c_hc) ∧ W.cell? ⟨Q, 5, none⟩ = some (.bool c.hooks)) ∧ (W.cell? ⟨bp, op + fn, none⟩ = some (.int .i64 (ps.getD fn 0)) ∧ W.cell? ⟨bp, op + k3, none⟩ = some (.int .i64 (ps.getD k3 0))) := fun W hW =>
                have hx := blk_below hxa hW (by omega)
                ⟨⟨blk_cell hx 0, blk_cell hx 1, blk_cell hx 2⟩, (Da.out.below hW).ccells, ⟨(hW.cell (p := ⟨bp, op + fn, none⟩) hbp).trans hca, (hW.cell (p := ⟨bp, op + k3, none⟩) hbp).trans hcb⟩⟩
              have HK := Lib.hid hkeep
              have hS := hkeep _ (Below.refl _ _).drew
              have hBd : Below w13.heap.size w13 wa.drew := hBA.drew
              have hAx := asked_ren HPM.out HCX.out HAk.out (by omega) hfr2 (by omega) (by omega)
              have hWx := way_ren HPM.out HQM.out hRf.out D9.out.ck HCX.out HAk.out (by omega) hfr2 (by omega) (by omega)
              simp only [Int.toNat_natCast] at hAx hWx
              have hcall : Calls Try.prog 30 #[.agg #[.int .i64 n.stops, .slice tA ys.length tc, .slice A2 (shopsTo n.shops ps n.stops.toNat).length cp2], .agg #[.slice (some ⟨gb, 0, none⟩) c.gauges.length c_gc, .int .i64 c.size, .int .i64 c.load, .slice c_bA c.brakes.length c_bc, .slice c_hA c.heats.length c_hc, .bool c.hooks], .int .i64 (ps.getD fn 0), .int .i64 ga, .int .i64 (ps.getD k3 0)] wa.drew (WayPost 0 (Pl.way ⟨n.stops, ys, shopsTo n.shops ps n.stops.toNat⟩ c (ps.getD fn 0) ga (ps.getD k3 0)) wa.drew) :=
                wayok_any ⟨n.stops, ys, shopsTo n.shops ps n.stops.toNat⟩ tA A2 tc cp2 c (some ⟨gb, 0, none⟩) c_bA c_hA c_gc c_bc c_hc (ps.getD fn 0) ga (ps.getD k3 0) wa.drew ((HN13.out.below hBd).more hBd.size) (Dr2.out.below hBd).creads hAx
              have HCALL := Lib.hid hcall
              have HBA := Lib.hid hBA
              have HWX := Lib.hid hWx
              have HNO := Lib.hid hno
              have HYES := Lib.hid hyes
              have hlp1 : (fn : Int) < (ps.length : Int) := by omega
              have hlp2 : (k3 : Int) < (ps.length : Int) := by omega
              clear z0 z1 z2 x0 x1 x2 x3 x4 x5 hba hBA hKa hpsa hpe hca hcb hxa hkeep hBd hAx hWx hcall hno hyes hsps
              generalize shopsTo n.shops ps n.stops.toNat = zs at *
              generalize ps.getD fn 0 = pf at *
              generalize ps.getD k3 0 = pk at *
              go_wp2_with fail
              go_region_held3 (fun W => (W.cell? ⟨X, 0, none⟩ = some (.int .i64 n.stops) ∧ W.cell? ⟨X, 1, none⟩ = some (.slice tA ys.length tc) ∧ W.cell? ⟨X, 2, none⟩ = some (.slice A2 zs.length cp2)) ∧ (W.cell? ⟨Q, 0, none⟩ = some (.slice (some ⟨gb, 0, none⟩) c.gauges.length c_gc) ∧ W.cell? ⟨Q, 1, none⟩ = some (.int .i64 c.size) ∧ W.cell? ⟨Q, 2, none⟩ = some (.int .i64 c.load) ∧ W.cell? ⟨Q, 3, none⟩ = some (.slice c_bA c.brakes.length c_bc) ∧ W.cell? ⟨Q, 4, none⟩ = some (.slice c_hA c.heats.length c_hc) ∧ W.cell? ⟨Q, 5, none⟩ = some (.bool c.hooks)) ∧ (W.cell? ⟨bp, op + fn, none⟩ = some (.int .i64 pf) ∧ W.cell? ⟨bp, op + k3, none⟩ = some (.int .i64 pk)))
                (first | go_keep | exact hS)
                (first
                  | (go_at_call 30; refine HCALL.out.mono ?_; rintro e wb ⟨bA, bl2, bc2, km2, v2, rfl, hbb, _, hno2, hyes2⟩; have hbb2 := ((Below.refl wa.heap.size wa).drew).trans hbb; have HBB := Lib.hid (HBA.out.trans (hbb2.mono hsa)); have HNO2 := Lib.hid hno2; have HYES2 := Lib.hid hyes2; have hS := HK.out _ hbb2; clear hbb hbb2 hno2 hyes2))
              have hfin : km2 = km ∧ v2 = v ∧ (v = 0 ∨ v = 11) := by
                rcases HWX.out with ⟨h1, h2⟩ | ⟨t, u, h1, h2, h3⟩
                · obtain ⟨r1, _, r2⟩ := HNO.out (by first | rfl | trivial) h1
                  obtain ⟨r3, _, r4⟩ := HNO2.out (by first | rfl | trivial) h2
                  exact ⟨by omega, by omega, .inr r1⟩
                · obtain ⟨r1, _, r2, _⟩ := HYES.out t (by first | rfl | trivial) h1
                  obtain ⟨r3, _, r4, _⟩ := HYES2.out u (by first | rfl | trivial) h2
                  exact ⟨by omega, by omega, .inl r1⟩
              obtain ⟨rfl, rfl, hv3⟩ := hfin
              clear HWX HNO HNO2 HYES HYES2 HCALL hS HK
              rcases hv3 with rfl | rfl
              · go_wp2_with fail
                go_roundw
                case rel => exact ⟨k3 + 1, by omega, by go_num, HBB⟩
                case measure => simp [intOf]; omega
              · go_wp2_with fail
                go_roundw
                case rel => exact ⟨k3 + 1, by omega, by go_num, HBB⟩
                case measure => simp [intOf]; omega
            · have hk6 : ¬ (k3 : Int) < n.stops := hk5
              have HWr := Lib.hid (HW13.out.trans (hB.out.mono HW13.out.size))
              have hnc := Dr3.out.ncells
              have hcc := Dr3.out.ccells
              obtain ⟨z0, z1, z2⟩ := hnc
              obtain ⟨x0, x1, x2, x3, x4, x5⟩ := hcc
              go_wp2_with (go_at_call 25; refine (rolling_any _).mono ?_; rintro e w15 ⟨rfl, hb15⟩)
              go_ret
              exact ⟨rfl, HWr.out.trans (hb15.mono HWr.out.size)⟩
end Go.Proofs.Ytpbjpochjagicaa
