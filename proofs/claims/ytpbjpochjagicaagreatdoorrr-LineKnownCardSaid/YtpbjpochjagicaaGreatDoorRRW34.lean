/- Walks: the chapter's examples. -/
import Derived.Test.YtpbjpochjagicaaGreatDoorRRW32
import Derived.Test.YtpbjpochjagicaaGreatDoorRRW27
namespace Go.Proofs.YtpbjpochjagicaaGreatDoorRR
open Go.RowKit

theorem askedWay : Pl.asked Pl.netN Pl.carK 0 1 2 = 0 := by kernel_rfl
theorem askedLacks : Pl.asked Pl.netN Pl.carK 0 1 3 = 0 := by kernel_rfl
theorem askedRebuild : Pl.asked Pl.netN Pl.carK 0 2 2 = 0 := by kernel_rfl
theorem valFirst : firstVal Pl.netN Pl.carK 0 1 [0, 1, 3] = .tuple #[.int .i64 2, .int .i64 5, .int .i64 0] := by kernel_rfl
theorem valLargest : largeVal Pl.netN Pl.carK 0 1 2 = .tuple #[.int .i64 5, .int .i64 0] := by kernel_rfl
theorem foundFew : (Pl.found Pl.netN Pl.carK 0 1 2).length ≤ tripMax := by
  have : (Pl.found Pl.netN Pl.carK 0 1 2).length = 1 := by kernel_rfl
  rw [this]; decide

/-- The net and the car of the examples are made. -/
def BothPost (w : World) (n_tA n_sA : Option Addr) (n_tc n_sc : Nat) (c_gA c_bA c_hA : Option Addr) (c_gc c_bc c_hc : Nat) (w' : World) : Prop :=
  NReads w' w'.heap.size Pl.netN n_tA n_sA n_tc n_sc ∧ CReads w' w'.heap.size Pl.carK c_gA c_bA c_hA c_gc c_bc c_hc ∧ Below w.heap.size w w'

theorem eq_new (A : Option Addr) (ca : Nat) (xs ys : List Int) (w : World) (hx : Ints w w.heap.size A xs) (hl : xs.length ≤ 1000) (hl2 : ys.length ≤ 1000) :
    Calls Tryz.prog 11 #[.slice A xs.length ca, .slice (some ⟨w.heap.size, 0, none⟩) ys.length ys.length] (w.alloc (.cells (ys.map (Value.int .i64)).toArray 3)) fun e w' => e = .returned (.bool (decide (xs = ys))) ∧ Below w.heap.size w w' := by
  have hb : Below w.heap.size w (w.alloc (.cells (ys.map (Value.int .i64)).toArray 3)) := (Below.refl _ _).alloc (Nat.le_refl _) _
  refine (equal_any A (some ⟨w.heap.size, 0, none⟩) ca ys.length xs ys _ ((hx.below hb).more hb.size) (ints_blk (heap_alloc_new w _) (by simp)) hl hl2).mono ?_
  rintro e w' ⟨h1, h2⟩
  exact ⟨h1, hb.trans (h2.mono hb.size)⟩

set_option maxRecDepth 100000 in
set_option maxHeartbeats 4000000 in
theorem rolling_any (w : World) : Calls Tryz.prog 6 #[] w fun e w' => e = .returned (.bool true) ∧ Below w.heap.size w w' := by
  go_enter Tryz.func6, Tryz.ntmps6
  go_wp2_with fail
  refine (net_any _).mono ?_
  rintro e w1 ⟨tA1, sA1, tc1, sc1, rfl, hn1, hb1⟩
  have Hn1 := Lib.hid hn1; have Hb1 := Lib.hid hb1; clear hn1 hb1
  go_wp2_with fail
  refine (car_any _).mono ?_
  rintro e w2 ⟨gA2, bA2, hA2, gc2, bc2, hc2, rfl, hr2, hb2⟩
  have Hn2 := Lib.hid ((Hn1.out.below hb2).more hb2.size); have Hr2 := Lib.hid hr2; have Hb2 := Lib.hid (Hb1.out.trans (hb2.mono Hb1.out.size)); clear hr2 hb2 Hn1 Hb1
  go_wp2_with fail
  refine (way_any Pl.netN tA1 sA1 tc1 sc1 Pl.carK gA2 bA2 hA2 gc2 bc2 hc2 0 1 2 w2 Hn2.out Hr2.out foundFew).mono ?_
  rintro e w3 ⟨A3, k3, c3, km3, v3, rfl, hb3, _, _, hq3⟩
  obtain ⟨rfl, rfl, rfl, hI3⟩ := hq3 _ askedWay Pl.exWay
  clear hq3
  have HI3 := Lib.hid hI3; have Hb3 := Lib.hid (Hb2.out.trans (hb3.mono Hb2.out.size)); clear hI3 hb3 Hn2 Hr2 Hb2
  go_wp2_with fail
  refine (net_any _).mono ?_
  rintro e w4 ⟨tA4, sA4, tc4, sc4, rfl, hn4, hb4⟩
  have Hn4 := Lib.hid hn4; have Hb4 := Lib.hid (Hb3.out.trans (hb4.mono Hb3.out.size)); have Hbb4 := Lib.hid hb4; clear hn4 hb4
  go_wp2_with fail
  refine (car_any _).mono ?_
  rintro e w5 ⟨gA5, bA5, hA5, gc5, bc5, hc5, rfl, hr5, hb5⟩
  have Hn5 := Lib.hid ((Hn4.out.below hb5).more hb5.size); have Hr5 := Lib.hid hr5; have Hb5 := Lib.hid (Hb4.out.trans (hb5.mono Hb4.out.size)); have Hbb5 := Lib.hid (Hbb4.out.trans (hb5.mono Hbb4.out.size)); clear hr5 hb5 Hn4 Hb4 Hbb4
  go_wp2_with fail
  have hb6 : Below w5.heap.size w5 (w5.alloc (.cells #[.int .i64 0, .int .i64 1, .int .i64 3] 3)) := (Below.refl _ _).alloc (Nat.le_refl _) _
  refine (first_any Pl.netN tA4 sA4 tc4 sc4 Pl.carK gA5 bA5 hA5 gc5 bc5 hc5 0 1 (some ⟨w5.heap.size, 0, none⟩) 3 [0, 1, 3] _ ((Hn5.out.below hb6).more hb6.size) ((Hr5.out.below hb6).more hb6.size) (ints_blk (xs := [0, 1, 3]) (heap_alloc_new w5 _) (by simp)) (by decide)).mono ?_
  rintro e w7 ⟨rfl, hb7⟩
  rw [valFirst]
  have HI7 := Lib.hid ((HI3.out.below (Hbb5.out.trans ((hb6.mono Hbb5.out.size).trans (hb7.mono (Nat.le_trans Hbb5.out.size hb6.size))))).more (Hbb5.out.trans ((hb6.mono Hbb5.out.size).trans (hb7.mono (Nat.le_trans Hbb5.out.size hb6.size)))).size)
  have Hb7 := Lib.hid (Hb5.out.trans ((hb6.mono Hb5.out.size).trans (hb7.mono (Nat.le_trans Hb5.out.size hb6.size))))
  clear hb6 hb7 Hn5 Hr5 Hb5 Hbb5 HI3
  go_wp2_with fail
  refine (net_any _).mono ?_
  rintro e w8 ⟨tA8, sA8, tc8, sc8, rfl, hn8, hb8⟩
  have Hn8 := Lib.hid hn8; have Hb8 := Lib.hid (Hb7.out.trans (hb8.mono Hb7.out.size)); have Hbb8 := Lib.hid hb8; clear hn8 hb8
  go_wp2_with fail
  refine (car_any _).mono ?_
  rintro e w9 ⟨gA9, bA9, hA9, gc9, bc9, hc9, rfl, hr9, hb9⟩
  have Hn9 := Lib.hid ((Hn8.out.below hb9).more hb9.size); have Hr9 := Lib.hid hr9; have Hb9 := Lib.hid (Hb8.out.trans (hb9.mono Hb8.out.size)); have Hbb9 := Lib.hid (Hbb8.out.trans (hb9.mono Hbb8.out.size)); clear hr9 hb9 Hn8 Hb8 Hbb8
  go_wp2_with fail
  refine (lacks_any Pl.netN tA8 sA8 tc8 sc8 Pl.carK gA9 bA9 hA9 gc9 bc9 hc9 0 1 3 w9 Hn9.out Hr9.out).mono ?_
  rintro e w10 ⟨A10, k10, c10, v10, rfl, hb10, _, _, hq10⟩
  obtain ⟨rfl, rfl, hI10⟩ := hq10 _ askedLacks Pl.exLacks
  clear hq10
  have hc10 := Hbb9.out.trans (hb10.mono Hbb9.out.size)
  have HI10 := Lib.hid hI10; have HJ10 := Lib.hid ((HI7.out.below hc10).more hc10.size); have Hb10 := Lib.hid (Hb9.out.trans (hb10.mono Hb9.out.size))
  clear hI10 hb10 hc10 Hn9 Hr9 Hb9 Hbb9 HI7
  go_wp2_with fail
  refine (net_any _).mono ?_
  rintro e w11 ⟨tA11, sA11, tc11, sc11, rfl, hn11, hb11⟩
  have Hn11 := Lib.hid hn11; have Hb11 := Lib.hid (Hb10.out.trans (hb11.mono Hb10.out.size)); have Hbb11 := Lib.hid hb11; clear hn11 hb11
  go_wp2_with fail
  refine (car_any _).mono ?_
  rintro e w12 ⟨gA12, bA12, hA12, gc12, bc12, hc12, rfl, hr12, hb12⟩
  have Hn12 := Lib.hid ((Hn11.out.below hb12).more hb12.size); have Hr12 := Lib.hid hr12; have Hb12 := Lib.hid (Hb11.out.trans (hb12.mono Hb11.out.size)); have Hbb12 := Lib.hid (Hbb11.out.trans (hb12.mono Hbb11.out.size)); clear hr12 hb12 Hn11 Hb11 Hbb11
  go_wp2_with fail
  refine (rebuild_any Pl.netN tA11 sA11 tc11 sc11 Pl.carK gA12 bA12 hA12 gc12 bc12 hc12 0 2 2 w12 Hn12.out Hr12.out).mono ?_
  rintro e w13 ⟨A13, k13, c13, v13, rfl, hb13, _, _, hq13⟩
  obtain ⟨rfl, rfl, hI13⟩ := hq13 _ askedRebuild Pl.exRebuild
  clear hq13
  have hc13 := Hbb12.out.trans (hb13.mono Hbb12.out.size)
  have HI13 := Lib.hid hI13; have HJ13 := Lib.hid ((HI10.out.below hc13).more hc13.size); have HK13 := Lib.hid ((HJ10.out.below hc13).more hc13.size); have Hb13 := Lib.hid (Hb12.out.trans (hb13.mono Hb12.out.size))
  clear hI13 hb13 hc13 Hn12 Hr12 Hb12 Hbb12 HI10 HJ10
  go_wp2_with fail
  refine (net_any _).mono ?_
  rintro e w14 ⟨tA14, sA14, tc14, sc14, rfl, hn14, hb14⟩
  have Hn14 := Lib.hid hn14; have Hb14 := Lib.hid (Hb13.out.trans (hb14.mono Hb13.out.size)); have Hbb14 := Lib.hid hb14; clear hn14 hb14
  go_wp2_with fail
  refine (car_any _).mono ?_
  rintro e w15 ⟨gA15, bA15, hA15, gc15, bc15, hc15, rfl, hr15, hb15⟩
  have Hn15 := Lib.hid ((Hn14.out.below hb15).more hb15.size); have Hr15 := Lib.hid hr15; have Hb15 := Lib.hid (Hb14.out.trans (hb15.mono Hb14.out.size)); have Hbb15 := Lib.hid (Hbb14.out.trans (hb15.mono Hbb14.out.size)); clear hr15 hb15 Hn14 Hb14 Hbb14
  go_wp2_with fail
  refine (largest_any Pl.netN tA14 sA14 tc14 sc14 Pl.carK gA15 bA15 hA15 gc15 bc15 hc15 0 1 2 w15 Hn15.out Hr15.out).mono ?_
  rintro e w16 ⟨rfl, hb16⟩
  rw [valLargest]
  have hc16 := Hbb15.out.trans (hb16.mono Hbb15.out.size)
  have HI16 := Lib.hid ((HI13.out.below hc16).more hc16.size); have HJ16 := Lib.hid ((HJ13.out.below hc16).more hc16.size); have HK16 := Lib.hid ((HK13.out.below hc16).more hc16.size); have Hb16 := Lib.hid (Hb15.out.trans (hb16.mono Hb15.out.size))
  clear hb16 hc16 Hn15 Hr15 Hb15 Hbb15 HI13 HJ13 HK13
  go_wp2_with fail
  have hE1 := eq_new A3 c3 [0, 1] [0, 1] w16 HK16.out (by decide) (by decide)
  refine hE1.mono ?_
  rintro e w17 ⟨rfl, hb17⟩
  have HI17 := Lib.hid ((HI16.out.below hb17).more hb17.size); have HJ17 := Lib.hid ((HJ16.out.below hb17).more hb17.size); have Hb17 := Lib.hid (Hb16.out.trans (hb17.mono Hb16.out.size))
  clear hb17 HI16 HJ16 HK16 Hb16 hE1
  go_wp2_with fail
  have hE2 := eq_new A10 c10 [21, 30] [21, 30] w17 HJ17.out (by decide) (by decide)
  refine hE2.mono ?_
  rintro e w18 ⟨rfl, hb18⟩
  have HI18 := Lib.hid ((HI17.out.below hb18).more hb18.size); have Hb18 := Lib.hid (Hb17.out.trans (hb18.mono Hb17.out.size))
  clear hb18 HI17 HJ17 Hb17 hE2
  go_wp2_with fail
  have hE3 := eq_new A13 c13 [0] [0] w18 HI18.out (by decide) (by decide)
  refine hE3.mono ?_
  rintro e w19 ⟨rfl, hb19⟩
  have Hb19 := Lib.hid (Hb18.out.trans (hb19.mono Hb18.out.size))
  clear hb19 HI18 Hb18 hE3
  go_wp2_with fail
  go_ret
  exact ⟨rfl, Hb19.out⟩
end Go.Proofs.YtpbjpochjagicaaGreatDoorRR
