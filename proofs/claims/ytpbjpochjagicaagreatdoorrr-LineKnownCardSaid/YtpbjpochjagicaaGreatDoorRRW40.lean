/- Walks: Bars. -/
import Derived.Test.YtpbjpochjagicaaGreatDoorRRW10
import Derived.Test.YtpbjpochjagicaaGreatDoorRRW7
import Derived.Test.YtpbjpochjagicaaGreatDoorRRW14
import Derived.Test.YtpbjpochjagicaaGreatDoorRRW15
import Derived.Test.YtpbjpochjagicaaGreatDoorRROt
import Derived.RegionTactic
import Derived.ChangeAlike
namespace Go.Proofs.YtpbjpochjagicaaGreatDoorRR
open Go.RowKit
theorem own_weaken {w : World} {base base2 : Nat} {A : Option Addr} {c : Nat} {xs : List Int} (h : OwnInts w base2 A c xs) (hb : base ≤ base2) : OwnInts w base A c xs := by
  refine ⟨h.1, ?_⟩
  rcases h.2 with h2 | ⟨g, cap, cur, hv, hg, r⟩
  · exact .inl h2
  · exact .inr ⟨g, cap, cur, hv, by omega, r⟩
/-- What Bars hands back. -/
def barsOf (n : Pl.Nt) (c : Pl.Cch) (k : Int) : List Int × Int :=
  if Pl.both n c ≠ 0 then ([], Pl.both n c) else if Pl.out k 0 ((n.tracks.length : Int) - 1) then ([], 3) else (Pl.barred c (n.tracks.getD k.toNat default), 0)
def BarsPost (r : List Int × Int) (w : World) (e : Ending) (w' : World) : Prop := ∃ A cp, e = .returned (.tuple #[.slice A r.1.length cp, .int .i64 r.2]) ∧ OwnInts w' w.heap.size A cp r.1 ∧ Below w.heap.size w w'

set_option maxHeartbeats 2000000 in
theorem bars_any (n : Pl.Nt) (n_tA n_sA : Option Addr) (n_tc n_sc : Nat) (c : Pl.Cch) (c_gA c_bA c_hA : Option Addr) (c_gc c_bc c_hc : Nat) (k : Int) (w : World) (hn : NReads w w.heap.size n n_tA n_sA n_tc n_sc) (hr : CReads w w.heap.size c c_gA c_bA c_hA c_gc c_bc c_hc) :
    Calls Tryz.prog 9 #[.agg #[.int .i64 n.stops, .slice n_tA n.tracks.length n_tc, .slice n_sA n.shops.length n_sc], .agg #[.slice c_gA c.gauges.length c_gc, .int .i64 c.size, .int .i64 c.load, .slice c_bA c.brakes.length c_bc, .slice c_hA c.heats.length c_hc, .bool c.hooks], .int .i64 k] w (BarsPost (barsOf n c k) w) := by
  have hb2 : ∀ (o1 o2 : Obj), Below w.heap.size w ((w.alloc o1).alloc o2) := fun o1 o2 => ((Below.refl _ _).alloc (Nat.le_refl _) _).alloc (by simp) _
  have Hn := Lib.hid (((hn.below (hb2 (.cells #[.int .i64 n.stops, .slice n_tA n.tracks.length n_tc, .slice n_sA n.shops.length n_sc] 25) (.cells #[.slice c_gA c.gauges.length c_gc, .int .i64 c.size, .int .i64 c.load, .slice c_bA c.brakes.length c_bc, .slice c_hA c.heats.length c_hc, .bool c.hooks] 28)))).more (B' := w.heap.size + 1 + 1) (by omega))
  have Hr := Lib.hid (((hr.below (hb2 (.cells #[.int .i64 n.stops, .slice n_tA n.tracks.length n_tc, .slice n_sA n.shops.length n_sc] 25) (.cells #[.slice c_gA c.gauges.length c_gc, .int .i64 c.size, .int .i64 c.load, .slice c_bA c.brakes.length c_bc, .slice c_hA c.heats.length c_hc, .bool c.hooks] 28)))).more (B' := w.heap.size + 1 + 1) (by omega))
  have hlT := hn.lenT
  have HB2 := Lib.hid hb2; clear hb2 hn hr
  have HM0 : Hid (((w.alloc (.cells #[.int .i64 n.stops, .slice n_tA n.tracks.length n_tc, .slice n_sA n.shops.length n_sc] 25)).alloc (.cells #[.slice c_gA c.gauges.length c_gc, .int .i64 c.size, .int .i64 c.load, .slice c_bA c.brakes.length c_bc, .slice c_hA c.heats.length c_hc, .bool c.hooks] 28)).heap[w.heap.size]? = some (.cells #[.int .i64 n.stops, .slice n_tA n.tracks.length n_tc, .slice n_sA n.shops.length n_sc] 25 (0, 0))) := blk_alloc (heap_alloc_new w _) _
  have HM1 : Hid (((w.alloc (.cells #[.int .i64 n.stops, .slice n_tA n.tracks.length n_tc, .slice n_sA n.shops.length n_sc] 25)).alloc (.cells #[.slice c_gA c.gauges.length c_gc, .int .i64 c.size, .int .i64 c.load, .slice c_bA c.brakes.length c_bc, .slice c_hA c.heats.length c_hc, .bool c.hooks] 28)).heap[w.heap.size + 1]? = some (.cells #[.slice c_gA c.gauges.length c_gc, .int .i64 c.size, .int .i64 c.load, .slice c_bA c.brakes.length c_bc, .slice c_hA c.heats.length c_hc, .bool c.hooks] 28 (0, 0))) := by
    have := heap_alloc_new (w.alloc (.cells #[.int .i64 n.stops, .slice n_tA n.tracks.length n_tc, .slice n_sA n.shops.length n_sc] 25)) (.cells #[.slice c_gA c.gauges.length c_gc, .int .i64 c.size, .int .i64 c.load, .slice c_bA c.brakes.length c_bc, .slice c_hA c.heats.length c_hc, .bool c.hooks] 28)
    show _ = _
    simpa using this
  by_cases e1 : Pl.both n c = 0
  · cases ho : Pl.out k 0 ((n.tracks.length : Int) - 1)
    · have hk0 : 0 ≤ k ∧ k ≤ (n.tracks.length : Int) - 1 := by simp [Pl.out] at ho; exact ho
      obtain ⟨kk, rfl⟩ : ∃ kk : Nat, k = kk := ⟨k.toNat, by omega⟩
      have hkk : kk < n.tracks.length := by omega
      have hN : barsOf n c kk = (Pl.barred c n.tracks[kk], 0) := by
        simp [barsOf, e1, ho, List.getD_eq_getElem?_getD, List.getElem?_eq_getElem hkk]
      rw [hN]
      clear hN hk0
      go_enter Tryz.func9, Tryz.ntmps9
      go_wp2_with fail
      refine (both_any n n_tA n_sA n_tc n_sc c c_gA c_bA c_hA c_gc c_bc c_hc _ (by simpa using Hn.out) (by simpa using Hr.out)).mono ?_
      rintro e w1 ⟨rfl, hb⟩
      have m0 := Lib.hid (blk_below HM0.out hb (by simp; omega)); have m1 := Lib.hid (blk_below HM1.out hb (by simp))
      have z1 : w1.cell? ⟨w.heap.size, 1, none⟩ = some (.slice n_tA n.tracks.length n_tc) := blk_cell m0.out 1
      have x0 : w1.cell? ⟨w.heap.size + 1, 0, none⟩ = some (.slice c_gA c.gauges.length c_gc) := blk_cell m1.out 0
      have x1 : w1.cell? ⟨w.heap.size + 1, 1, none⟩ = some (.int .i64 c.size) := blk_cell m1.out 1
      have x2 : w1.cell? ⟨w.heap.size + 1, 2, none⟩ = some (.int .i64 c.load) := blk_cell m1.out 2
      have x3 : w1.cell? ⟨w.heap.size + 1, 3, none⟩ = some (.slice c_bA c.brakes.length c_bc) := blk_cell m1.out 3
      have x4 : w1.cell? ⟨w.heap.size + 1, 4, none⟩ = some (.slice c_hA c.heats.length c_hc) := blk_cell m1.out 4
      have x5 : w1.cell? ⟨w.heap.size + 1, 5, none⟩ = some (.bool c.hooks) := blk_cell m1.out 5
      have hsz := hb.size
      have HW := Lib.hid ((HB2.out (.cells #[.int .i64 n.stops, .slice n_tA n.tracks.length n_tc, .slice n_sA n.shops.length n_sc] 25) (.cells #[.slice c_gA c.gauges.length c_gc, .int .i64 c.size, .int .i64 c.load, .slice c_bA c.brakes.length c_bc, .slice c_hA c.heats.length c_hc, .bool c.hooks] 28)).trans (hb.mono (by simp; omega)))
      have Hcar := Lib.hid (car_made w1 c c_gA c_bA c_hA c_gc c_bc c_hc n n_tA n_sA n_tc n_sc m0.out)
      have hs1 : w.heap.size + 1 + 1 ≤ w1.heap.size := by simpa using hsz
      have HB3 := Lib.hid ((HW.out).alloc (by omega) (.cells (#[.slice c_gA c.gauges.length c_gc, .int .i64 c.size, .int .i64 c.load, .slice c_bA c.brakes.length c_bc, .slice c_hA c.heats.length c_hc, .bool c.hooks] ++ #[.pointer (some ⟨w.heap.size, 0, none⟩), .slice none 0 0]) 58))
      have Hn3 := Lib.hid ((Hn.out.below (by simpa using hb)).more hs1)
      have Hr3 := Lib.hid ((Hr.out.below (by simpa using hb)).more hs1)
      clear hb hsz
      rw [e1]
      go_wp2_with (first | (go_at_call 22; refine (out_any _ _ _ _).mono ?_; rintro e w' ⟨rfl, rfl⟩))
      refine (barred_any w1.heap.size w.heap.size c c_gA c_bA c_hA c_gc c_bc c_hc n n_tA n_sA n_tc n_sc none 0 0 kk hkk _ Hcar.out ((Hr3.out.alloc (Nat.le_refl _) _).more (by simp)) ((Hn3.out.alloc (Nat.le_refl _) _).more (by simp))).mono ?_
      rintro e w2 ⟨A, cp, rfl, hown, hb2⟩
      have HW2 := Lib.hid (HB3.out.trans (hb2.mono (by simp; omega)))
      have Hown := Lib.hid (own_weaken (base := w.heap.size) hown (by simp; omega))
      clear hb2 hown
      go_wp2_with fail
      go_ret2
      exact ⟨A, cp, rfl, Hown.out, HW2.out⟩
    · have hN : barsOf n c k = ([], 3) := by simp [barsOf, e1, ho]
      rw [hN]
      clear hN
      go_enter Tryz.func9, Tryz.ntmps9
      go_wp2_with fail
      refine (both_any n n_tA n_sA n_tc n_sc c c_gA c_bA c_hA c_gc c_bc c_hc _ (by simpa using Hn.out) (by simpa using Hr.out)).mono ?_
      rintro e w1 ⟨rfl, hb⟩
      have m0 := Lib.hid (blk_below HM0.out hb (by simp; omega))
      have z1 : w1.cell? ⟨w.heap.size, 1, none⟩ = some (.slice n_tA n.tracks.length n_tc) := blk_cell m0.out 1
      have HW := Lib.hid ((HB2.out (.cells #[.int .i64 n.stops, .slice n_tA n.tracks.length n_tc, .slice n_sA n.shops.length n_sc] 25) (.cells #[.slice c_gA c.gauges.length c_gc, .int .i64 c.size, .int .i64 c.load, .slice c_bA c.brakes.length c_bc, .slice c_hA c.heats.length c_hc, .bool c.hooks] 28)).trans (hb.mono (by simp; omega)))
      clear hb
      rw [e1]
      go_wp2_with (first | (go_at_call 22; refine (out_any _ _ _ _).mono ?_; rintro e w' ⟨rfl, rfl⟩))
      go_ret2
      exact ⟨none, 0, rfl, OwnInts.nil _ _, HW.out⟩
  · have hN : barsOf n c k = ([], Pl.both n c) := by simp [barsOf, e1]
    rw [hN]
    have hq : (Pl.both n c != 0) = true := by rw [bne_iff_ne]; exact e1
    clear e1 hN
    go_enter Tryz.func9, Tryz.ntmps9
    go_wp2_with fail
    refine (both_any n n_tA n_sA n_tc n_sc c c_gA c_bA c_hA c_gc c_bc c_hc _ (by simpa using Hn.out) (by simpa using Hr.out)).mono ?_
    rintro e w1 ⟨rfl, hb⟩
    have HW := Lib.hid ((HB2.out (.cells #[.int .i64 n.stops, .slice n_tA n.tracks.length n_tc, .slice n_sA n.shops.length n_sc] 25) (.cells #[.slice c_gA c.gauges.length c_gc, .int .i64 c.size, .int .i64 c.load, .slice c_bA c.brakes.length c_bc, .slice c_hA c.heats.length c_hc, .bool c.hooks] 28)).trans (hb.mono (by simp; omega)))
    clear hb
    go_wp2_with fail
    go_ret2
    exact ⟨none, 0, rfl, OwnInts.nil _ _, HW.out⟩
end Go.Proofs.YtpbjpochjagicaaGreatDoorRR

namespace Go.Proofs.YtpbjpochjagicaaGreatDoorRR
open Go.RowKit
end Go.Proofs.YtpbjpochjagicaaGreatDoorRR
