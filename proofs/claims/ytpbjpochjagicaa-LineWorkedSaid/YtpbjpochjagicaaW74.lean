/- Walks: LineWorked (by gen_law3.py). -/
import Derived.Test.YtpbjpochjagicaaW49
import Derived.Test.YtpbjpochjagicaaW27
import Derived.Test.YtpbjpochjagicaaW72
import Derived.Test.YtpbjpochjagicaaW73
import Derived.Test.YtpbjpochjagicaaW34
import Derived.Deep.DeepCutAuto
import Derived.BigQuiet
namespace Go.Proofs.Ytpbjpochjagicaa
open Go.RowKit

theorem list_case {q : Int} {L : Option (List Int)} {w' : World} {A : Option Addr} {k : Nat} {v : Int} (hq : q = 0) (hno : q = 0 → L = none → v = 11 ∧ k = 0) (hyes : ∀ l, q = 0 → L = some l → v = 0 ∧ k = l.length ∧ Ints w' w'.heap.size A l) :
    ∃ r : List Int, k = r.length ∧ Ints w' w'.heap.size A r ∧ ((v = 0 ∧ L = some r) ∨ (v = 11 ∧ r = [] ∧ L = none)) := by
  cases L with
  | none =>
    obtain ⟨h1, h2⟩ := hno hq rfl
    exact ⟨[], by simpa using h2, Ints.nil _ _ _, .inr ⟨h1, rfl, rfl⟩⟩
  | some l =>
    obtain ⟨h1, h2, h3⟩ := hyes l hq rfl
    exact ⟨l, h2, h3, .inl ⟨h1, rfl⟩⟩
/-- Nothing has to be rebuilt just if nothing is lacking. -/
theorem same_nil {n : Pl.Nt} {c : Pl.Cch} {fr ga ds : Int} : Pl.rebuild n c fr ga ds = some [] ↔ Pl.lacks n c fr ga ds = some [] := by
  rw [Pl.rebuild, Pl.lacks, Pl.fewest_nil, Pl.fewest_nil]
  rfl

set_option maxRecDepth 20000 in
set_option maxHeartbeats 20000000 in
theorem law3 (A : Option Addr) (cp : Nat) (xs : List Int) (w : World) (hx : Ints w w.heap.size A xs) (hl : xs.length ≤ 9223372036854775807) :
    Calls Try.prog 3 #[.slice A xs.length cp] w fun e w' => e = .returned (.bool true) ∧ Below w.heap.size w w' := by
  go_enter Try.func3, Try.ntmps3
  go_wp2_with fail
  refine (newBag_any A cp xs w hx hl).mono ?_
  rintro e w1 ⟨g, rfl, hgw, hb1, hB1⟩
  have HB1 := Lib.hid hB1
  have hg1 := hb1.lt
  go_wp2_with fail
  refine (netOf_any g 4 4 w1 hb1 (by omega) (by omega) (by omega) (by omega)).mono ?_
  rintro e w2 ⟨n, n_tA, n_sA, n_tc, n_sc, rfl, htr, hsh, hn, k12⟩
  have Htr := Lib.hid htr
  have Hsh := Lib.hid hsh
  have Hn := Lib.hid hn
  have K12 := Lib.hid k12
  have b2 := k12.bag
  clear htr hsh hn k12 hB1 hx
  go_wp2_with fail
  refine (coach_any g w2 b2).mono ?_
  rintro e w3 ⟨c, c_gA, c_bA, c_hA, c_gc, c_bc, c_hc, rfl, hga, hbr, hhe, hc, k23⟩
  have Hga := Lib.hid hga
  have Hbr := Lib.hid hbr
  have Hhe := Lib.hid hhe
  have Hc := Lib.hid hc
  have K23 := Lib.hid k23
  clear hga hbr hhe hc k23
  go_wp2_with fail
  have hNb := blk_alloc (heap_alloc_new w3 (.cells #[.int .i64 n.stops, .slice n_tA n.tracks.length n_tc, .slice n_sA n.shops.length n_sc] 27)) (.cells #[.slice c_gA c.gauges.length c_gc, .int .i64 c.size, .int .i64 c.load, .slice c_bA c.brakes.length c_bc, .slice c_hA c.heats.length c_hc, .bool c.hooks] 30)
  have hCb : ((w3.alloc (.cells #[.int .i64 n.stops, .slice n_tA n.tracks.length n_tc, .slice n_sA n.shops.length n_sc] 27)).alloc (.cells #[.slice c_gA c.gauges.length c_gc, .int .i64 c.size, .int .i64 c.load, .slice c_bA c.brakes.length c_bc, .slice c_hA c.heats.length c_hc, .bool c.hooks] 30)).heap[w3.heap.size + 1]? = some (.cells #[.slice c_gA c.gauges.length c_gc, .int .i64 c.size, .int .i64 c.load, .slice c_bA c.brakes.length c_bc, .slice c_hA c.heats.length c_hc, .bool c.hooks] 30 (0, 0)) := by
    have := heap_alloc_new (w3.alloc (.cells #[.int .i64 n.stops, .slice n_tA n.tracks.length n_tc, .slice n_sA n.shops.length n_sc] 27)) (.cells #[.slice c_gA c.gauges.length c_gc, .int .i64 c.size, .int .i64 c.load, .slice c_bA c.brakes.length c_bc, .slice c_hA c.heats.length c_hc, .bool c.hooks] 30)
    simpa using this
  have hb34 : Below w3.heap.size w3 ((w3.alloc (.cells #[.int .i64 n.stops, .slice n_tA n.tracks.length n_tc, .slice n_sA n.shops.length n_sc] 27)).alloc (.cells #[.slice c_gA c.gauges.length c_gc, .int .i64 c.size, .int .i64 c.load, .slice c_bA c.brakes.length c_bc, .slice c_hA c.heats.length c_hc, .bool c.hooks] 30)) := ((Below.refl _ _).alloc (Nat.le_refl _) _).alloc (by simp) _
  have hD := dealt_of n n_tA n_sA n_tc n_sc c c_gA c_bA c_hA c_gc c_bc c_hc hg1 Htr.out Hsh.out Hn.out (by omega) (by omega) K12.out Hga.out Hbr.out Hhe.out Hc.out K23.out hb34 hNb hCb (Nat.le_refl _) (by omega)
  have hW4 : Below w.heap.size w ((w3.alloc (.cells #[.int .i64 n.stops, .slice n_tA n.tracks.length n_tc, .slice n_sA n.shops.length n_sc] 27)).alloc (.cells #[.slice c_gA c.gauges.length c_gc, .int .i64 c.size, .int .i64 c.load, .slice c_bA c.brakes.length c_bc, .slice c_hA c.heats.length c_hc, .bool c.hooks] 30)) := by
    have hs12 := K12.out.size
    have hs23 := K23.out.size
    have hs1 := HB1.out.size
    exact ((HB1.out.trans (K12.out.below hgw hg1)).trans (K23.out.below hgw (by omega))).trans (hb34.mono (by omega))
  clear Htr Hsh Hn K12 Hga Hbr Hhe Hc K23 hb34 hNb hCb b2 HB1
  generalize hQ : w3.heap.size + 1 = Q at hD ⊢
  generalize (w3.alloc (.cells #[.int .i64 n.stops, .slice n_tA n.tracks.length n_tc, .slice n_sA n.shops.length n_sc] 27)).alloc (.cells #[.slice c_gA c.gauges.length c_gc, .int .i64 c.size, .int .i64 c.load, .slice c_bA c.brakes.length c_bc, .slice c_hA c.heats.length c_hc, .bool c.hooks] 30) = w4 at hD hW4 ⊢
  generalize w3.heap.size = P at hD ⊢
  clear hQ
  have HW4 := Lib.hid hW4
  clear hW4
  obtain ⟨gb, hgA, hgb⟩ := hD.gauges
  subst hgA
  have D0 := Lib.hid hD
  have hst1 := hD.st
  have hst6 := hD.st6
  have hng := hD.ng
  have hlg := hD.lg
  have hP := lt_of_block hD.b4
  have hQ := lt_of_block hD.b5
  have hS : w4.drew.cell? ⟨P, 0, none⟩ = some (.int .i64 n.stops) ∧ w4.drew.cell? ⟨Q, 0, none⟩ = some (.slice (some ⟨gb, 0, none⟩) c.gauges.length c_gc) := ⟨hD.drew.ncells.1, hD.drew.ccells.1⟩
  have HW := Lib.hid (IntWalk.i64_in (n.stops - 1) ⟨by omega, by omega⟩)
  clear hD
  go_region_held3 (fun w' => w'.cell? ⟨P, 0, none⟩ = some (.int .i64 n.stops) ∧ w'.cell? ⟨Q, 0, none⟩ = some (.slice (some ⟨gb, 0, none⟩) c.gauges.length c_gc))
    (first | go_keep | exact hS)
    (first
      | (go_at_call 18; rw [HW.out]; refine (up_any g _ _ D0.out.drew.bag (by omega)).mono ?_; rintro e w5 ⟨fr, rfl, hf0, hf1, hB5⟩; have D5 := Lib.hid (D0.out.drew.bagged hB5); have HB5 := Lib.hid hB5; clear hB5; have hS := And.intro D5.out.ncells.1 D5.out.ccells.1)
      | (go_at_call 19; refine (one_any g gb 0 _ c.gauges _ D5.out.bag D5.out.ga.ints hgb hng (by omega)).mono ?_; rintro e w6 ⟨ga, rfl, hgm, hB6⟩; have D6 := Lib.hid (D5.out.bagged hB6); have HB6 := Lib.hid hB6; clear hB6; have hS := And.intro D6.out.ncells.1 D6.out.ccells.1)
      | (go_at_call 18; refine (up_any g _ _ D6.out.bag (by omega)).mono ?_; rintro e w7 ⟨ds, rfl, hd0, hd1, hB7⟩; have D7 := Lib.hid (D6.out.bagged hB7); have HB7 := Lib.hid hB7; clear hB7; have hS := And.intro D7.out.ncells.1 D7.out.ccells.1))
  have HW7 := Lib.hid (HW4.out.trans ((((((Kb.refl D0.out.bag).drew.bagged HB5.out).bagged HB6.out)).bagged HB7.out).below hgw D0.out.bag.lt))
  clear HW4 HB5 HB6 HB7 hS
  have HA := Lib.hid (D7.out.asked hf0 (by omega) hgm hd0 (by omega))
  have HQ := Lib.hid (D7.out.question hf0 (show fr ≤ n.stops - 1 by omega) hgm)
  have hnc := D7.out.ncells
  have hcc := D7.out.ccells
  obtain ⟨z0, z1, z2⟩ := hnc
  obtain ⟨x0, x1, x2, x3, x4, x5⟩ := hcc
  go_wp2_with fail
  refine (rebuild_any n n_tA n_sA n_tc n_sc c (some ⟨gb, 0, none⟩) c_bA c_hA c_gc c_bc c_hc fr ga ds w7 D7.out.nreads D7.out.creads).mono ?_
  rintro e w8 ⟨lA, ll, lc, v, rfl, hb8, _, hno, hyes⟩
  have D8 := Lib.hid (D7.out.below hb8)
  have HW8 := Lib.hid (HW7.out.trans (hb8.mono HW7.out.size))
  obtain ⟨r, hrl, hI, hcase⟩ := list_case HA.out hno hyes
  subst hrl
  have HI8 := Lib.hid hI
  have HCS := Lib.hid hcase
  clear z0 z1 z2 x0 x1 x2 x3 x4 x5 hb8 HW7 D7 hno hyes hI hcase
  have hnc := D8.out.ncells
  have hcc := D8.out.ccells
  obtain ⟨z0, z1, z2⟩ := hnc
  obtain ⟨x0, x1, x2, x3, x4, x5⟩ := hcc
  go_wp2_with fail
  refine (lacks_any n n_tA n_sA n_tc n_sc c (some ⟨gb, 0, none⟩) c_bA c_hA c_gc c_bc c_hc fr ga ds w8 D8.out.nreads D8.out.creads).mono ?_
  rintro e w9 ⟨lA2, ll2, lc2, v2, rfl, hb9, _, hno2, hyes2⟩
  have D9 := Lib.hid (D8.out.below hb9)
  have HW9 := Lib.hid (HW8.out.trans (hb9.mono HW8.out.size))
  have HI9 := Lib.hid ((HI8.out.below hb9).more hb9.size)
  obtain ⟨r2, hrl2, _, hcase2⟩ := list_case HA.out hno2 hyes2
  subst hrl2
  have HCS2 := Lib.hid hcase2
  have HSN := Lib.hid (@same_nil n c fr ga ds)
  clear z0 z1 z2 x0 x1 x2 x3 x4 x5 hb9 HW8 D8 hno2 hyes2 hcase2 HI8 HA
  have HLK : Hid (Pl.rebuild n c fr ga ds = Pl.fewestFrom (seg 0 n.tracks.length) (fun l => Pl.comes n c l (fr, ga) ds) ((seg 0 n.tracks.length).length + 1) 0) := by show _ = _; rw [seg_zero]; rfl
  have hT8 := D9.out.t8
  have hal : (seg 0 n.tracks.length).length = n.tracks.length := by rw [seg_length, Nat.sub_zero]
  have hsub : Hid (∀ m li, li ∈ Pl.lists (seg 0 n.tracks.length) m → li.length ≤ 10) := fun m li h => by have := (lists_sub h).1.length_le; omega
  have HAL := Lib.hid hal
  clear hal
  generalize hseg : seg 0 n.tracks.length = all at HLK HAL hsub
  generalize hF : (fun l => Pl.comes n c l (fr, ga) ds) = F at HLK
  have HFE : Hid (∀ l, F l = Pl.comes n c l (fr, ga) ds) := fun l => by rw [← hF]
  have HSG := Lib.hid hseg
  clear hF hseg
  generalize Pl.rebuild n c fr ga ds = LK at HLK HCS HSN
  generalize Pl.lacks n c fr ga ds = LK2 at HCS2 HSN
  have HL0 : Hid (LK = Pl.fewestFrom all F (all.length + 1 - 0) 0) := HLK.out
  clear HLK
  go_upto_region 6 with fail
  go_cut [70] (fun v wx => v = .bool false ∧ wx = w9)
  case first =>
    rcases HCS.out with ⟨h1, h2⟩ | ⟨h1, h2, h3⟩
    · subst h1
      rcases HCS2.out with ⟨k1, k2⟩ | ⟨k1, k2, k3⟩
      · subst k1
        by_cases e : r = []
        · have e2 : r2 = [] := by
            have := HSN.out.1 (by rw [h2, e]); rw [k2] at this; injection this
          subst e e2
          go_wp2_with fail
          go_meet
          exact ⟨rfl, rfl⟩
        · have e2 : r2 ≠ [] := fun e2 => by
            have := HSN.out.2 (by rw [k2, e2]); rw [h2] at this; injection this with this; exact e this
          have hz1 : ((r.length : Int) == 0) = false := by rw [beq_eq_false_iff_ne]; intro h; exact e (List.eq_nil_of_length_eq_zero (by omega))
          have hz2 : ((r2.length : Int) == 0) = false := by rw [beq_eq_false_iff_ne]; intro h; exact e2 (List.eq_nil_of_length_eq_zero (by omega))
          clear e e2 h2 k2
          go_wp2_with fail
          go_meet
          exact ⟨rfl, rfl⟩
      · subst k1 k2
        have e : r ≠ [] := fun e => by
          have := HSN.out.1 (by rw [h2, e]); rw [k3] at this; cases this
        have hz1 : ((r.length : Int) == 0) = false := by rw [beq_eq_false_iff_ne]; intro h; exact e (List.eq_nil_of_length_eq_zero (by omega))
        clear e h2 k3
        go_wp2_with fail
        go_meet
        exact ⟨rfl, rfl⟩
    · subst h1 h2
      rcases HCS2.out with ⟨k1, k2⟩ | ⟨k1, k2, k3⟩
      · subst k1
        have e2 : r2 ≠ [] := fun e2 => by
          have := HSN.out.2 (by rw [k2, e2]); rw [h3] at this; cases this
        have hz2 : ((r2.length : Int) == 0) = false := by rw [beq_eq_false_iff_ne]; intro h; exact e2 (List.eq_nil_of_length_eq_zero (by omega))
        clear e2 h3 k2
        go_wp2_with fail
        go_meet
        exact ⟨rfl, rfl⟩
      · subst k1 k2
        clear h3 k3
        go_wp2_with fail
        go_meet
        exact ⟨rfl, rfl⟩
  case rest =>
  obtain ⟨rfl, rfl⟩ := hcut
  clear HCS2 HSN
  go_wp2_with fail
  go_loopw [13] (fun iv wr => ∃ m : Nat, m ≤ n.tracks.length + 1 ∧ iv = .int .i64 m ∧ Hid (LK = Pl.fewestFrom all F (n.tracks.length + 1 - m) m) ∧ Hid (Below wc.heap.size wc wr)) (fun i _ => n.tracks.length + 1 - (intOf i).toNat)
  case atStart => exact ⟨0, by omega, rfl, (by have := HL0.out; rw [HAL.out] at this; exact this), Below.refl _ _⟩
  case round =>
    obtain ⟨m, hm, rfl, hLm, hB⟩ := hrel
    clear HL0
    have z1 := (D9.out.below hB.out).ncells.2.1
    by_cases hml : m ≤ n.tracks.length
    · have hmi : (m : Int) ≤ (n.tracks.length : Int) := by omega
      have hsubs := subsets_any m 0 n.tracks.length wr (by omega) (by omega) (by omega)
      rw [HSG.out] at hsubs
      have HSB := Lib.hid hsubs
      clear hsubs
      go_wp2_with fail
      refine HSB.out.mono ?_
      rintro e wb ⟨RA, rc, rfl, hro, hrb⟩
      have HRO := Lib.hid hro
      have HBb := Lib.hid (hB.out.trans (hrb.mono hB.out.size))
      have Db := Lib.hid (D9.out.below HBb.out)
      clear hro hrb hB HSB z1
      obtain ⟨wo, hwo⟩ : ∃ wo, wo = wr := ⟨_, rfl⟩
      subst hwo
      obtain ⟨k, hk⟩ : ∃ k, n.tracks.length + 1 - m = k + 1 := ⟨n.tracks.length - m, by omega⟩
      have HLK : Hid (LK = Pl.fewestFrom all F (k + 1) m) := by show _ = _; rw [← hk]; exact hLm.out
      have hk2 : n.tracks.length + 1 - (m + 1) = k := by omega
      have HK2 := Lib.hid hk2
      have HSM := Lib.hid (hsub.out m)
      have HST : Hid (((Pl.lists all m).drop 0).find? F = (Pl.lists all m).find? F) := rfl
      have HAT := Lib.hid (fun (i : Nat) (hi : i < (Pl.lists all m).length) => fewest_at2 (all := all) (f := F) (k := k) (m := m) hi)
      have HON := Lib.hid (fun (i : Nat) (hi : i < (Pl.lists all m).length) => fewest_on2 (all := all) (f := F) (m := m) hi)
      have HNX := Lib.hid (fewest_next2 (all := all) (f := F) (k := k) (m := m))
      have hlsl : (Pl.lists all m).length ≤ 1024 := Nat.le_trans (lists_length _ _) (Nat.le_trans (Nat.pow_le_pow_right (by omega) (by rw [HAL.out]; omega : _ ≤ 10)) (by decide))
      clear hk hk2 hLm
      generalize Pl.lists all m = ls at *
      go_wp2_with fail
      go_loopw [15] (fun iv wi => ∃ i : Nat, i ≤ ls.length ∧ iv = .int .i64 i ∧ Hid ((ls.drop i).find? F = ls.find? F) ∧ Hid (Below wb.heap.size wb wi)) (fun i _ => ls.length - (intOf i).toNat)
      case atStart => exact ⟨0, by omega, rfl, HST, Below.refl _ _⟩
      case round =>
        obtain ⟨i, hi, rfl, hFi, hB⟩ := hrel
        clear HST
        have Dr := Lib.hid (Db.out.below hB.out)
        by_cases hil : i < ls.length
        · obtain ⟨rb, A5, c5, hRA, hrb1, hrb2, hr1, hrp⟩ := HRO.out.pick (List.getElem?_eq_getElem hil)
          subst hRA
          have hii : (i : Int) < (ls.length : Int) := by omega
          have hg4 := HSM.out ls[i] (List.getElem_mem hil)
          have HFI := Lib.hid (HFE.out ls[i])
          have HATi := Lib.hid (HAT.out i hil hFi.out)
          have HONi := Lib.hid (HON.out i hil hFi.out)
          have hrk : ∀ W, Below wb.heap.size wb W → W.cell? ⟨rb, i, none⟩ = some (.slice A5 ls[i].length c5) ∧ Ints W wb.heap.size A5 ls[i] := fun W h => hrp W ⟨h.size, fun b _ h2 => h.block b h2⟩
          clear hrp hFi
          generalize ls[i] = li at *
          have HRK := Lib.hid hrk
          have hsr := hB.out.size
          have hBd : Below wb.heap.size wb wr.drew := hB.out.drew
          have HBD := Lib.hid hBd
          have hcall := steps_any n n_tA n_sA n_tc n_sc c (some ⟨gb, 0, none⟩) c_bA c_hA c_gc c_bc c_hc A5 c5 li fr ga ds wr.drew Dr.out.drew.nreads Dr.out.drew.creads ((hrk _ hBd).2.more hBd.size) (by omega) HQ.out
          have HCALL := Lib.hid hcall
          have hkeep : ∀ W, Below wb.heap.size wb W → (W.cell? ⟨P, 0, none⟩ = some (.int .i64 n.stops) ∧ W.cell? ⟨P, 1, none⟩ = some (.slice n_tA n.tracks.length n_tc) ∧ W.cell? ⟨P, 2, none⟩ = some (.slice n_sA n.shops.length n_sc)) ∧ (W.cell? ⟨Q, 0, none⟩ = some (.slice (some ⟨gb, 0, none⟩) c.gauges.length c_gc) ∧ W.cell? ⟨Q, 1, none⟩ = some (.int .i64 c.size) ∧ W.cell? ⟨Q, 2, none⟩ = some (.int .i64 c.load) ∧ W.cell? ⟨Q, 3, none⟩ = some (.slice c_bA c.brakes.length c_bc) ∧ W.cell? ⟨Q, 4, none⟩ = some (.slice c_hA c.heats.length c_hc) ∧ W.cell? ⟨Q, 5, none⟩ = some (.bool c.hooks)) ∧ W.cell? ⟨rb, i, none⟩ = some (.slice A5 li.length c5) := fun W h => ⟨(Db.out.below h).ncells, (Db.out.below h).ccells, (hrk W h).1⟩
          have HK := Lib.hid hkeep
          have hS := hkeep _ hBd
          have hpb := lt_of_block Dr.out.b4
          have hqb := lt_of_block Dr.out.b5
          have hrbr : rb < wr.heap.size := by omega
          have HG4 := Lib.hid hg4
          clear hrk hBd hcall hkeep hg4 hr1
          have y0 := (HRK.out _ hB.out).1
          go_wp2_with fail
          clear y0
          go_region_held3 (fun W => (W.cell? ⟨P, 0, none⟩ = some (.int .i64 n.stops) ∧ W.cell? ⟨P, 1, none⟩ = some (.slice n_tA n.tracks.length n_tc) ∧ W.cell? ⟨P, 2, none⟩ = some (.slice n_sA n.shops.length n_sc)) ∧ (W.cell? ⟨Q, 0, none⟩ = some (.slice (some ⟨gb, 0, none⟩) c.gauges.length c_gc) ∧ W.cell? ⟨Q, 1, none⟩ = some (.int .i64 c.size) ∧ W.cell? ⟨Q, 2, none⟩ = some (.int .i64 c.load) ∧ W.cell? ⟨Q, 3, none⟩ = some (.slice c_bA c.brakes.length c_bc) ∧ W.cell? ⟨Q, 4, none⟩ = some (.slice c_hA c.heats.length c_hc) ∧ W.cell? ⟨Q, 5, none⟩ = some (.bool c.hooks)) ∧ W.cell? ⟨rb, i, none⟩ = some (.slice A5 li.length c5))
            (first | go_keep | exact hS)
            (first
              | (go_at_call 23; refine HCALL.out.mono ?_; rintro e wB ⟨rfl, hb2⟩; have HB2 := Lib.hid (HBD.out.trans (hb2.mono HBD.out.size)); have hS := HK.out _ HB2.out; clear hb2))
          clear hS HCALL Dr
          cases hcm : Pl.comes n c li (fr, ga) ds
          · have hN := Lib.hid (HONi.out (by rw [HFI.out]; exact hcm))
            clear hcm HATi HONi HFI
            go_wp2_with fail
            go_roundw
            case rel => exact ⟨i + 1, by omega, by go_num, hN, HB2⟩
            case measure => simp [intOf]; omega
          · have hLS : LK = some li := HLK.out.trans (HATi.out (by rw [HFI.out]; exact hcm))
            obtain ⟨rfl, rfl⟩ : v = 0 ∧ r = li := by
              rcases HCS.out with ⟨h1, h2⟩ | ⟨_, _, h2⟩
              · rw [hLS] at h2; injection h2 with h2; exact ⟨h1, h2.symm⟩
              · rw [hLS] at h2; cases h2
            have y0 := (HRK.out _ HB2.out).1
            have HIr := Lib.hid (((HI9.out.below HBb.out).more HBb.out.size).below HB2.out)
            have HIs := Lib.hid ((HRK.out _ HB2.out).2)
            have HWr := Lib.hid (HW9.out.trans ((HBb.out.trans (HB2.out.mono HBb.out.size)).mono HW9.out.size))
            have hd : decide (r = r) = true := by simp
            have hsB := HB2.out.size
            have hrbB : rb < wB.heap.size := by omega
            clear hcm hLS HATi HONi HFI
            go_wp2_with (first | (go_at_call 24; refine (equal_any lA A5 lc c5 r r wB (HIr.out.more hsB) (HIs.out.more hsB) (by have := HG4.out; omega) (by have := HG4.out; omega)).mono ?_; rintro e wE ⟨rfl, hbE⟩; rw [hd]; have HWE := Lib.hid (HWr.out.trans (hbE.mono HWr.out.size)); clear hbE) | (go_at_call 25; refine (rolling_any _).mono ?_; rintro e w15 ⟨rfl, hb15⟩))
            go_ret
            exact ⟨rfl, HWE.out.trans (hb15.mono HWE.out.size)⟩
        · obtain rfl : i = ls.length := by omega
          have hni : ¬ (ls.length : Int) < (ls.length : Int) := by omega
          have hN : Hid (LK = Pl.fewestFrom all F (n.tracks.length + 1 - (m + 1)) (m + 1)) := by show _ = _; rw [HK2.out, HLK.out]; exact HNX.out hFi.out
          have HBW := Lib.hid (HBb.out.trans (hB.out.mono HBb.out.size))
          clear hFi hB Dr
          go_wp2_with fail
          go_roundw
          case rel => exact ⟨m + 1, by omega, by go_num, hN, HBW⟩
          case measure => simp [intOf]; omega
    · obtain rfl : m = n.tracks.length + 1 := by omega
      have hLN : LK = none := by rw [hLm.out, Nat.sub_self]; rfl
      obtain ⟨rfl, rfl⟩ : v = 11 ∧ r = [] := by
        rcases HCS.out with ⟨_, h2⟩ | ⟨h1, h2, _⟩
        · rw [hLN] at h2; cases h2
        · exact ⟨h1, h2⟩
      have hni : ¬ ((n.tracks.length + 1 : Nat) : Int) ≤ (n.tracks.length : Int) := by omega
      have HWr := Lib.hid (HW9.out.trans (hB.out.mono HW9.out.size))
      clear hLm hLN hml
      go_wp2_with (go_at_call 25; refine (rolling_any _).mono ?_; rintro e w15 ⟨rfl, hb15⟩)
      go_ret
      exact ⟨rfl, HWr.out.trans (hb15.mono HWr.out.size)⟩
end Go.Proofs.Ytpbjpochjagicaa
