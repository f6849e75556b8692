/- Walks: LineKnown (by gen_kn.py). -/
import Derived.Test.YtpbjpochjagicaaGreatDoorRRKn2
namespace Go.Proofs.YtpbjpochjagicaaGreatDoorRR
open Go.RowKit

/-- The net of the examples, its blocks told. -/
def NetNew (w : World) (e : Ending) (w' : World) : Prop :=
  ∃ tb sb, e = .returned (.agg #[.int .i64 4, .slice (some ⟨tb, 0, none⟩) 4 4, .slice (some ⟨sb, 0, none⟩) 1 1]) ∧ w.heap.size ≤ tb ∧ w.heap.size ≤ sb ∧ sb ≠ tb ∧
    w'.heap[tb]? = some (.cells #[.int .i64 0, .int .i64 1, .int .i64 10, .int .i64 1, .int .i64 5, .int .i64 1, .int .i64 0, .int .i64 15, .bool false,
    .int .i64 1, .int .i64 2, .int .i64 5, .int .i64 2, .int .i64 5, .int .i64 1, .int .i64 0, .int .i64 15, .bool false,
    .int .i64 0, .int .i64 2, .int .i64 20, .int .i64 1, .int .i64 3, .int .i64 0, .int .i64 0, .int .i64 15, .bool false,
    .int .i64 2, .int .i64 3, .int .i64 4, .int .i64 2, .int .i64 6, .int .i64 0, .int .i64 1, .int .i64 12, .bool true] 31 (0, 0)) ∧ w'.heap[sb]? = some (.cells #[.int .i64 1] 3 (0, 0)) ∧ Below w.heap.size w w'
set_option maxHeartbeats 1000000 in
theorem net_new (w : World) : Calls Tryz.prog 4 #[] w (NetNew w) := by
  go_enter Tryz.func4, Tryz.ntmps4
  go_wp2_with fail
  refine bodyPost_ret (v := .agg #[.int .i64 4, .slice (some ⟨w.heap.size + 1 + 1, 0, none⟩) 4 4, .slice (some ⟨w.heap.size + 1, 0, none⟩) 1 1]) (by simp [results, Tryz.results4, go_sem]) rfl ?_
  obtain ⟨M1, M0, M2⟩ := mid_blk w #[.int .i64 4, .slice (some ⟨w.heap.size + 1 + 1, 0, none⟩) 4 4, .slice (some ⟨w.heap.size + 1, 0, none⟩) 1 1] #[.int .i64 1] #[.int .i64 0, .int .i64 1, .int .i64 10, .int .i64 1, .int .i64 5, .int .i64 1, .int .i64 0, .int .i64 15, .bool false,
    .int .i64 1, .int .i64 2, .int .i64 5, .int .i64 2, .int .i64 5, .int .i64 1, .int .i64 0, .int .i64 15, .bool false,
    .int .i64 0, .int .i64 2, .int .i64 20, .int .i64 1, .int .i64 3, .int .i64 0, .int .i64 0, .int .i64 15, .bool false,
    .int .i64 2, .int .i64 3, .int .i64 4, .int .i64 2, .int .i64 6, .int .i64 0, .int .i64 1, .int .i64 12, .bool true] 25 3 31
  exact ⟨_, _, rfl, by omega, by omega, by omega, M2, M1, (((Below.refl _ _).alloc (Nat.le_refl _) _).alloc (by simp) _).alloc (by simp; omega) _⟩
def CarNew (w : World) (e : Ending) (w' : World) : Prop :=
  ∃ gb bb, e = .returned (.agg #[.slice (some ⟨gb, 0, none⟩) 2 2, .int .i64 4, .int .i64 12, .slice (some ⟨bb, 0, none⟩) 1 1, .slice none 0 0, .bool false]) ∧ w.heap.size ≤ gb ∧ w.heap.size ≤ bb ∧
    w'.heap[gb]? = some (.cells #[.int .i64 1, .int .i64 2] 3 (0, 0)) ∧ w'.heap[bb]? = some (.cells #[.int .i64 1] 3 (0, 0)) ∧ Below w.heap.size w w'
set_option maxHeartbeats 1000000 in
theorem car_new (w : World) : Calls Tryz.prog 5 #[] w (CarNew w) := by
  go_enter Tryz.func5, Tryz.ntmps5
  go_wp2_with fail
  refine bodyPost_ret (v := .agg #[.slice (some ⟨w.heap.size + 1, 0, none⟩) 2 2, .int .i64 4, .int .i64 12, .slice (some ⟨w.heap.size + 1 + 1, 0, none⟩) 1 1, .slice none 0 0, .bool false]) (by simp [results, Tryz.results5, go_sem]) rfl ?_
  obtain ⟨M1, M0, M2⟩ := mid_blk w #[.slice (some ⟨w.heap.size + 1, 0, none⟩) 2 2, .int .i64 4, .int .i64 12, .slice (some ⟨w.heap.size + 1 + 1, 0, none⟩) 1 1, .slice none 0 0, .bool false] #[.int .i64 1, .int .i64 2] #[.int .i64 1] 28 3 3
  exact ⟨_, _, rfl, by omega, by omega, M1, M2, (((Below.refl _ _).alloc (Nat.le_refl _) _).alloc (by simp) _).alloc (by simp; omega) _⟩
set_option maxRecDepth 20000 in
set_option maxHeartbeats 8000000 in
theorem known_any (w : World) : Calls Tryz.prog 3 #[] w fun e w' => e = .returned (.bool true) ∧ Below w.heap.size w w' := by
  go_enter Tryz.func3, Tryz.ntmps3
  go_wp2_with fail
  refine (net_new _).mono ?_
  rintro e w1 ⟨tb1, sb1, rfl, h1, h2, h3, k1, k2, hb⟩
  have Btb1 := Lib.hid k1; have Bsb1 := Lib.hid k2; have Ltb1 := Lib.hid h1; have Lsb1 := Lib.hid h2; have Utb1 := Lib.hid (lt_of_block k1); have Usb1 := Lib.hid (lt_of_block k2); have Hb1 := Lib.hid hb; clear h1 h2 h3 k1 k2 hb
  go_wp2_with fail
  refine (net_new _).mono ?_
  rintro e w2 ⟨tb2, sb2, rfl, h1, h2, h3, k1, k2, hb⟩
  replace Btb1 := Lib.hid (blk_below Btb1.out hb (lt_of_block Btb1.out)); replace Bsb1 := Lib.hid (blk_below Bsb1.out hb (lt_of_block Bsb1.out)); have Btb2 := Lib.hid k1; have Bsb2 := Lib.hid k2; have Ltb2 := Lib.hid h1; have Lsb2 := Lib.hid h2; have Utb2 := Lib.hid (lt_of_block k1); have Usb2 := Lib.hid (lt_of_block k2); have N2 := Lib.hid h3; have HS2 := Lib.hid hb.size; have Hb2 := Lib.hid (Hb1.out.trans (hb.mono Hb1.out.size)); clear h1 h2 h3 k1 k2 hb
  go_wp2_with fail
  refine (net_new _).mono ?_
  rintro e w3 ⟨tb3, sb3, rfl, h1, h2, h3, k1, k2, hb⟩
  replace Btb1 := Lib.hid (blk_below Btb1.out hb (lt_of_block Btb1.out)); replace Bsb1 := Lib.hid (blk_below Bsb1.out hb (lt_of_block Bsb1.out)); replace Btb2 := Lib.hid (blk_below Btb2.out hb (lt_of_block Btb2.out)); replace Bsb2 := Lib.hid (blk_below Bsb2.out hb (lt_of_block Bsb2.out)); have Btb3 := Lib.hid k1; have Bsb3 := Lib.hid k2; have Ltb3 := Lib.hid h1; have Lsb3 := Lib.hid h2; have Utb3 := Lib.hid (lt_of_block k1); have Usb3 := Lib.hid (lt_of_block k2); have HS3 := Lib.hid hb.size; have Hb3 := Lib.hid (Hb2.out.trans (hb.mono Hb2.out.size)); clear h1 h2 h3 k1 k2 hb
  go_wp2_with fail
  refine (car_new _).mono ?_
  rintro e w4 ⟨gb4, bb4, rfl, h1, h2, k1, k2, hb⟩
  replace Btb1 := Lib.hid (blk_below Btb1.out hb (lt_of_block Btb1.out)); replace Bsb1 := Lib.hid (blk_below Bsb1.out hb (lt_of_block Bsb1.out)); replace Btb2 := Lib.hid (blk_below Btb2.out hb (lt_of_block Btb2.out)); replace Bsb2 := Lib.hid (blk_below Bsb2.out hb (lt_of_block Bsb2.out)); replace Btb3 := Lib.hid (blk_below Btb3.out hb (lt_of_block Btb3.out)); replace Bsb3 := Lib.hid (blk_below Bsb3.out hb (lt_of_block Bsb3.out)); have Bgb4 := Lib.hid k1; have Bbb4 := Lib.hid k2; have Lgb4 := Lib.hid h1; have Lbb4 := Lib.hid h2; have Ugb4 := Lib.hid (lt_of_block k1); have Ubb4 := Lib.hid (lt_of_block k2); have HS4 := Lib.hid hb.size; have Hb4 := Lib.hid (Hb3.out.trans (hb.mono Hb3.out.size)); clear h1 h2 k1 k2 hb
  go_wp2_with fail
  refine (car_new _).mono ?_
  rintro e w5 ⟨gb5, bb5, rfl, h1, h2, k1, k2, hb⟩
  replace Btb1 := Lib.hid (blk_below Btb1.out hb (lt_of_block Btb1.out)); replace Bsb1 := Lib.hid (blk_below Bsb1.out hb (lt_of_block Bsb1.out)); replace Btb2 := Lib.hid (blk_below Btb2.out hb (lt_of_block Btb2.out)); replace Bsb2 := Lib.hid (blk_below Bsb2.out hb (lt_of_block Bsb2.out)); replace Btb3 := Lib.hid (blk_below Btb3.out hb (lt_of_block Btb3.out)); replace Bsb3 := Lib.hid (blk_below Bsb3.out hb (lt_of_block Bsb3.out)); replace Bgb4 := Lib.hid (blk_below Bgb4.out hb (lt_of_block Bgb4.out)); replace Bbb4 := Lib.hid (blk_below Bbb4.out hb (lt_of_block Bbb4.out)); have Bgb5 := Lib.hid k1; have Bbb5 := Lib.hid k2; have Lgb5 := Lib.hid h1; have Lbb5 := Lib.hid h2; have Ugb5 := Lib.hid (lt_of_block k1); have Ubb5 := Lib.hid (lt_of_block k2); have HS5 := Lib.hid hb.size; have Hb5 := Lib.hid (Hb4.out.trans (hb.mono Hb4.out.size)); clear h1 h2 k1 k2 hb
  go_wp2_with fail
  refine (car_new _).mono ?_
  rintro e w6 ⟨gb6, bb6, rfl, h1, h2, k1, k2, hb⟩
  replace Btb1 := Lib.hid (blk_below Btb1.out hb (lt_of_block Btb1.out)); replace Bsb1 := Lib.hid (blk_below Bsb1.out hb (lt_of_block Bsb1.out)); replace Btb2 := Lib.hid (blk_below Btb2.out hb (lt_of_block Btb2.out)); replace Bsb2 := Lib.hid (blk_below Bsb2.out hb (lt_of_block Bsb2.out)); replace Btb3 := Lib.hid (blk_below Btb3.out hb (lt_of_block Btb3.out)); replace Bsb3 := Lib.hid (blk_below Bsb3.out hb (lt_of_block Bsb3.out)); replace Bgb4 := Lib.hid (blk_below Bgb4.out hb (lt_of_block Bgb4.out)); replace Bbb4 := Lib.hid (blk_below Bbb4.out hb (lt_of_block Bbb4.out)); replace Bgb5 := Lib.hid (blk_below Bgb5.out hb (lt_of_block Bgb5.out)); replace Bbb5 := Lib.hid (blk_below Bbb5.out hb (lt_of_block Bbb5.out)); have Bgb6 := Lib.hid k1; have Bbb6 := Lib.hid k2; have Lgb6 := Lib.hid h1; have Lbb6 := Lib.hid h2; have Ugb6 := Lib.hid (lt_of_block k1); have Ubb6 := Lib.hid (lt_of_block k2); have HS6 := Lib.hid hb.size; have Hb6 := Lib.hid (Hb5.out.trans (hb.mono Hb5.out.size)); clear h1 h2 k1 k2 hb
  clear Hb2 Hb3 Hb4 Hb5
  go_upto_region 2 with fail
  obtain ⟨W, hW, hbW, hsW, m1, m2, m3, m4, m5, m6⟩ := six_new w6 #[.int .i64 4, .slice (some ⟨tb1, 0, none⟩) 4 4, .slice (some ⟨sb1, 0, none⟩) 1 1] #[.int .i64 4, .slice (some ⟨tb2, 0, none⟩) 4 4, .slice (some ⟨sb2, 0, none⟩) 1 1] #[.int .i64 4, .slice (some ⟨tb3, 0, none⟩) 4 4, .slice (some ⟨sb3, 0, none⟩) 1 1] #[.slice (some ⟨gb4, 0, none⟩) 2 2, .int .i64 4, .int .i64 12, .slice (some ⟨bb4, 0, none⟩) 1 1, .slice none 0 0, .bool false] #[.slice (some ⟨gb5, 0, none⟩) 2 2, .int .i64 4, .int .i64 12, .slice (some ⟨bb5, 0, none⟩) 1 1, .slice none 0 0, .bool false] #[.slice (some ⟨gb6, 0, none⟩) 2 2, .int .i64 4, .int .i64 12, .slice (some ⟨bb6, 0, none⟩) 1 1, .slice none 0 0, .bool false] 25 25 25 28 28 28
  rw [← hW]
  clear hW
  have x2 := blk_cell m2 1
  have x1 := blk_cell m1 0
  have f1 := blk_frozen m1 0
  have x3 := blk_cell m3 2
  have f3 := blk_frozen m3 2
  have x4 := blk_cell m4 0
  have f4 := blk_frozen m4 0
  have x5 := blk_cell m5 1
  have f5 := blk_frozen m5 1
  have x6 := blk_cell m6 1
  have f6 := blk_frozen m6 1
  have ht6 := blk_below Btb2.out hbW (lt_of_block Btb2.out)
  have xt := blk_cell ht6 1
  have ft := blk_frozen ht6 1
  simp only [List.getElem?_toArray, List.getElem?_cons_zero, List.getElem?_cons_succ] at x1 x2 x3 x4 x5 x6 xt
  have hlt6 := lt_of_block Btb2.out
  have ne0 : ¬ tb2 = w6.heap.size := by omega
  have nf0 : ¬ w6.heap.size = tb2 := by omega
  have lt0 : w6.heap.size < W.heap.size := by omega
  have ne1 : ¬ tb2 = w6.heap.size + 1 := by omega
  have nf1 : ¬ w6.heap.size + 1 = tb2 := by omega
  have lt1 : w6.heap.size + 1 < W.heap.size := by omega
  have ne2 : ¬ tb2 = w6.heap.size + 1 + 1 := by omega
  have nf2 : ¬ w6.heap.size + 1 + 1 = tb2 := by omega
  have lt2 : w6.heap.size + 1 + 1 < W.heap.size := by omega
  have ne3 : ¬ tb2 = w6.heap.size + 1 + 1 + 1 := by omega
  have nf3 : ¬ w6.heap.size + 1 + 1 + 1 = tb2 := by omega
  have lt3 : w6.heap.size + 1 + 1 + 1 < W.heap.size := by omega
  have ne4 : ¬ tb2 = w6.heap.size + 1 + 1 + 1 + 1 := by omega
  have nf4 : ¬ w6.heap.size + 1 + 1 + 1 + 1 = tb2 := by omega
  have lt4 : w6.heap.size + 1 + 1 + 1 + 1 < W.heap.size := by omega
  have ne5 : ¬ tb2 = w6.heap.size + 1 + 1 + 1 + 1 + 1 := by omega
  have nf5 : ¬ w6.heap.size + 1 + 1 + 1 + 1 + 1 = tb2 := by omega
  have lt5 : w6.heap.size + 1 + 1 + 1 + 1 + 1 < W.heap.size := by omega
  have ltt : tb2 < W.heap.size := by omega
  have s1 := ((Below.heap_setCell W ⟨w6.heap.size, 0, none⟩ (.int .i64 7) (tb2) (by show (tb2 : Nat) ≠ w6.heap.size; omega)).trans ht6)
  have sa1 := blk_alloc s1 (.cells #[.int .i64 4] 3)
  have c1 := blk_cell s1 1
  have ca1 := blk_cell sa1 1
  have d1 := blk_frozen s1 1
  have da1 := blk_frozen sa1 1
  have s2 := ((Below.heap_setCell (W.setCell ⟨w6.heap.size, 0, none⟩ (.int .i64 7)) ⟨tb2, 1, none⟩ (.int .i64 0) (w6.heap.size + 1 + 1) (by show (w6.heap.size + 1 + 1 : Nat) ≠ tb2; omega)).trans ((Below.heap_setCell W ⟨w6.heap.size, 0, none⟩ (.int .i64 7) (w6.heap.size + 1 + 1) (by show (w6.heap.size + 1 + 1 : Nat) ≠ w6.heap.size; omega)).trans m3))
  have sa2 := blk_alloc s2 (.cells #[.int .i64 4] 3)
  have c2 := blk_cell s2 2
  have ca2 := blk_cell sa2 2
  have d2 := blk_frozen s2 2
  have da2 := blk_frozen sa2 2
  have s3 := ((Below.heap_setCell ((W.setCell ⟨w6.heap.size, 0, none⟩ (.int .i64 7)).setCell ⟨tb2, 1, none⟩ (.int .i64 0)) ⟨w6.heap.size + 1 + 1, 2, none⟩ (.slice (some ⟨W.heap.size, 0, none⟩) 1 1) (w6.heap.size + 1 + 1 + 1) (by show (w6.heap.size + 1 + 1 + 1 : Nat) ≠ w6.heap.size + 1 + 1; omega)).trans ((Below.heap_setCell (W.setCell ⟨w6.heap.size, 0, none⟩ (.int .i64 7)) ⟨tb2, 1, none⟩ (.int .i64 0) (w6.heap.size + 1 + 1 + 1) (by show (w6.heap.size + 1 + 1 + 1 : Nat) ≠ tb2; omega)).trans ((Below.heap_setCell W ⟨w6.heap.size, 0, none⟩ (.int .i64 7) (w6.heap.size + 1 + 1 + 1) (by show (w6.heap.size + 1 + 1 + 1 : Nat) ≠ w6.heap.size; omega)).trans m4)))
  have sa3 := blk_alloc s3 (.cells #[.int .i64 4] 3)
  have c3 := blk_cell s3 0
  have ca3 := blk_cell sa3 0
  have d3 := blk_frozen s3 0
  have da3 := blk_frozen sa3 0
  have s4 := ((Below.heap_setCell (((W.setCell ⟨w6.heap.size, 0, none⟩ (.int .i64 7)).setCell ⟨tb2, 1, none⟩ (.int .i64 0)).setCell ⟨w6.heap.size + 1 + 1, 2, none⟩ (.slice (some ⟨W.heap.size, 0, none⟩) 1 1)) ⟨w6.heap.size + 1 + 1 + 1, 0, none⟩ (.slice none 0 0) (w6.heap.size + 1 + 1 + 1 + 1) (by show (w6.heap.size + 1 + 1 + 1 + 1 : Nat) ≠ w6.heap.size + 1 + 1 + 1; omega)).trans ((Below.heap_setCell ((W.setCell ⟨w6.heap.size, 0, none⟩ (.int .i64 7)).setCell ⟨tb2, 1, none⟩ (.int .i64 0)) ⟨w6.heap.size + 1 + 1, 2, none⟩ (.slice (some ⟨W.heap.size, 0, none⟩) 1 1) (w6.heap.size + 1 + 1 + 1 + 1) (by show (w6.heap.size + 1 + 1 + 1 + 1 : Nat) ≠ w6.heap.size + 1 + 1; omega)).trans ((Below.heap_setCell (W.setCell ⟨w6.heap.size, 0, none⟩ (.int .i64 7)) ⟨tb2, 1, none⟩ (.int .i64 0) (w6.heap.size + 1 + 1 + 1 + 1) (by show (w6.heap.size + 1 + 1 + 1 + 1 : Nat) ≠ tb2; omega)).trans ((Below.heap_setCell W ⟨w6.heap.size, 0, none⟩ (.int .i64 7) (w6.heap.size + 1 + 1 + 1 + 1) (by show (w6.heap.size + 1 + 1 + 1 + 1 : Nat) ≠ w6.heap.size; omega)).trans m5))))
  have sa4 := blk_alloc s4 (.cells #[.int .i64 4] 3)
  have c4 := blk_cell s4 1
  have ca4 := blk_cell sa4 1
  have d4 := blk_frozen s4 1
  have da4 := blk_frozen sa4 1
  have s5 := ((Below.heap_setCell ((((W.setCell ⟨w6.heap.size, 0, none⟩ (.int .i64 7)).setCell ⟨tb2, 1, none⟩ (.int .i64 0)).setCell ⟨w6.heap.size + 1 + 1, 2, none⟩ (.slice (some ⟨W.heap.size, 0, none⟩) 1 1)).setCell ⟨w6.heap.size + 1 + 1 + 1, 0, none⟩ (.slice none 0 0)) ⟨w6.heap.size + 1 + 1 + 1 + 1, 1, none⟩ (.int .i64 10) (w6.heap.size + 1 + 1 + 1 + 1 + 1) (by show (w6.heap.size + 1 + 1 + 1 + 1 + 1 : Nat) ≠ w6.heap.size + 1 + 1 + 1 + 1; omega)).trans ((Below.heap_setCell (((W.setCell ⟨w6.heap.size, 0, none⟩ (.int .i64 7)).setCell ⟨tb2, 1, none⟩ (.int .i64 0)).setCell ⟨w6.heap.size + 1 + 1, 2, none⟩ (.slice (some ⟨W.heap.size, 0, none⟩) 1 1)) ⟨w6.heap.size + 1 + 1 + 1, 0, none⟩ (.slice none 0 0) (w6.heap.size + 1 + 1 + 1 + 1 + 1) (by show (w6.heap.size + 1 + 1 + 1 + 1 + 1 : Nat) ≠ w6.heap.size + 1 + 1 + 1; omega)).trans ((Below.heap_setCell ((W.setCell ⟨w6.heap.size, 0, none⟩ (.int .i64 7)).setCell ⟨tb2, 1, none⟩ (.int .i64 0)) ⟨w6.heap.size + 1 + 1, 2, none⟩ (.slice (some ⟨W.heap.size, 0, none⟩) 1 1) (w6.heap.size + 1 + 1 + 1 + 1 + 1) (by show (w6.heap.size + 1 + 1 + 1 + 1 + 1 : Nat) ≠ w6.heap.size + 1 + 1; omega)).trans ((Below.heap_setCell (W.setCell ⟨w6.heap.size, 0, none⟩ (.int .i64 7)) ⟨tb2, 1, none⟩ (.int .i64 0) (w6.heap.size + 1 + 1 + 1 + 1 + 1) (by show (w6.heap.size + 1 + 1 + 1 + 1 + 1 : Nat) ≠ tb2; omega)).trans ((Below.heap_setCell W ⟨w6.heap.size, 0, none⟩ (.int .i64 7) (w6.heap.size + 1 + 1 + 1 + 1 + 1) (by show (w6.heap.size + 1 + 1 + 1 + 1 + 1 : Nat) ≠ w6.heap.size; omega)).trans m6)))))
  have sa5 := blk_alloc s5 (.cells #[.int .i64 4] 3)
  have c5 := blk_cell s5 1
  have ca5 := blk_cell sa5 1
  have d5 := blk_frozen s5 1
  have da5 := blk_frozen sa5 1
  simp only [List.getElem?_toArray, List.getElem?_cons_zero, List.getElem?_cons_succ] at c1 ca1 c2 ca2 c3 ca3 c4 ca4 c5 ca5
  clear s1 sa1 s2 sa2 s3 sa3 s4 sa4 s5 sa5
  have lwtb1 := lt_of_block Btb1.out
  have nttb1 : tb1 ≠ tb2 := by have := Utb1.out; have := Ltb2.out; omega
  have lwsb1 := lt_of_block Bsb1.out
  have ntsb1 : sb1 ≠ tb2 := by have := Usb1.out; have := Ltb2.out; omega
  have lwsb2 := lt_of_block Bsb2.out
  have ntsb2 : sb2 ≠ tb2 := by exact N2.out
  have lwtb3 := lt_of_block Btb3.out
  have nttb3 : tb3 ≠ tb2 := by have := Utb2.out; have := Ltb3.out; omega
  have lwsb3 := lt_of_block Bsb3.out
  have ntsb3 : sb3 ≠ tb2 := by have := Utb2.out; have := Lsb3.out; omega
  have lwgb4 := lt_of_block Bgb4.out
  have ntgb4 : gb4 ≠ tb2 := by have := Utb2.out; have := Lgb4.out; have := HS3.out; omega
  have lwbb4 := lt_of_block Bbb4.out
  have ntbb4 : bb4 ≠ tb2 := by have := Utb2.out; have := Lbb4.out; have := HS3.out; omega
  have lwgb5 := lt_of_block Bgb5.out
  have ntgb5 : gb5 ≠ tb2 := by have := Utb2.out; have := Lgb5.out; have := HS3.out; have := HS4.out; omega
  have lwbb5 := lt_of_block Bbb5.out
  have ntbb5 : bb5 ≠ tb2 := by have := Utb2.out; have := Lbb5.out; have := HS3.out; have := HS4.out; omega
  have lwgb6 := lt_of_block Bgb6.out
  have ntgb6 : gb6 ≠ tb2 := by have := Utb2.out; have := Lgb6.out; have := HS3.out; have := HS4.out; have := HS5.out; omega
  have lwbb6 := lt_of_block Bbb6.out
  have ntbb6 : bb6 ≠ tb2 := by have := Utb2.out; have := Lbb6.out; have := HS3.out; have := HS4.out; have := HS5.out; omega
  have Fx1 := Lib.hid (blk_alloc ((Below.heap_setCell (((((W.setCell ⟨w6.heap.size, 0, none⟩ (.int .i64 7)).setCell ⟨tb2, 1, none⟩ (.int .i64 0)).setCell ⟨w6.heap.size + 1 + 1, 2, none⟩ (.slice (some ⟨W.heap.size, 0, none⟩) 1 1)).setCell ⟨w6.heap.size + 1 + 1 + 1, 0, none⟩ (.slice none 0 0)).setCell ⟨w6.heap.size + 1 + 1 + 1 + 1, 1, none⟩ (.int .i64 10)) ⟨w6.heap.size + 1 + 1 + 1 + 1 + 1, 1, none⟩ (.int .i64 3) (w6.heap.size) (by show (w6.heap.size : Nat) ≠ w6.heap.size + 1 + 1 + 1 + 1 + 1; omega)).trans ((Below.heap_setCell ((((W.setCell ⟨w6.heap.size, 0, none⟩ (.int .i64 7)).setCell ⟨tb2, 1, none⟩ (.int .i64 0)).setCell ⟨w6.heap.size + 1 + 1, 2, none⟩ (.slice (some ⟨W.heap.size, 0, none⟩) 1 1)).setCell ⟨w6.heap.size + 1 + 1 + 1, 0, none⟩ (.slice none 0 0)) ⟨w6.heap.size + 1 + 1 + 1 + 1, 1, none⟩ (.int .i64 10) (w6.heap.size) (by show (w6.heap.size : Nat) ≠ w6.heap.size + 1 + 1 + 1 + 1; omega)).trans ((Below.heap_setCell (((W.setCell ⟨w6.heap.size, 0, none⟩ (.int .i64 7)).setCell ⟨tb2, 1, none⟩ (.int .i64 0)).setCell ⟨w6.heap.size + 1 + 1, 2, none⟩ (.slice (some ⟨W.heap.size, 0, none⟩) 1 1)) ⟨w6.heap.size + 1 + 1 + 1, 0, none⟩ (.slice none 0 0) (w6.heap.size) (by show (w6.heap.size : Nat) ≠ w6.heap.size + 1 + 1 + 1; omega)).trans ((Below.heap_setCell ((W.setCell ⟨w6.heap.size, 0, none⟩ (.int .i64 7)).setCell ⟨tb2, 1, none⟩ (.int .i64 0)) ⟨w6.heap.size + 1 + 1, 2, none⟩ (.slice (some ⟨W.heap.size, 0, none⟩) 1 1) (w6.heap.size) (by show (w6.heap.size : Nat) ≠ w6.heap.size + 1 + 1; omega)).trans ((Below.heap_setCell (W.setCell ⟨w6.heap.size, 0, none⟩ (.int .i64 7)) ⟨tb2, 1, none⟩ (.int .i64 0) (w6.heap.size) (by show (w6.heap.size : Nat) ≠ tb2; omega)).trans (blk_set (i := 0) m1 (.int .i64 7))))))) (.cells #[.int .i64 4] 3))
  have Fx2 := Lib.hid (blk_alloc ((Below.heap_setCell (((((W.setCell ⟨w6.heap.size, 0, none⟩ (.int .i64 7)).setCell ⟨tb2, 1, none⟩ (.int .i64 0)).setCell ⟨w6.heap.size + 1 + 1, 2, none⟩ (.slice (some ⟨W.heap.size, 0, none⟩) 1 1)).setCell ⟨w6.heap.size + 1 + 1 + 1, 0, none⟩ (.slice none 0 0)).setCell ⟨w6.heap.size + 1 + 1 + 1 + 1, 1, none⟩ (.int .i64 10)) ⟨w6.heap.size + 1 + 1 + 1 + 1 + 1, 1, none⟩ (.int .i64 3) (w6.heap.size + 1) (by show (w6.heap.size + 1 : Nat) ≠ w6.heap.size + 1 + 1 + 1 + 1 + 1; omega)).trans ((Below.heap_setCell ((((W.setCell ⟨w6.heap.size, 0, none⟩ (.int .i64 7)).setCell ⟨tb2, 1, none⟩ (.int .i64 0)).setCell ⟨w6.heap.size + 1 + 1, 2, none⟩ (.slice (some ⟨W.heap.size, 0, none⟩) 1 1)).setCell ⟨w6.heap.size + 1 + 1 + 1, 0, none⟩ (.slice none 0 0)) ⟨w6.heap.size + 1 + 1 + 1 + 1, 1, none⟩ (.int .i64 10) (w6.heap.size + 1) (by show (w6.heap.size + 1 : Nat) ≠ w6.heap.size + 1 + 1 + 1 + 1; omega)).trans ((Below.heap_setCell (((W.setCell ⟨w6.heap.size, 0, none⟩ (.int .i64 7)).setCell ⟨tb2, 1, none⟩ (.int .i64 0)).setCell ⟨w6.heap.size + 1 + 1, 2, none⟩ (.slice (some ⟨W.heap.size, 0, none⟩) 1 1)) ⟨w6.heap.size + 1 + 1 + 1, 0, none⟩ (.slice none 0 0) (w6.heap.size + 1) (by show (w6.heap.size + 1 : Nat) ≠ w6.heap.size + 1 + 1 + 1; omega)).trans ((Below.heap_setCell ((W.setCell ⟨w6.heap.size, 0, none⟩ (.int .i64 7)).setCell ⟨tb2, 1, none⟩ (.int .i64 0)) ⟨w6.heap.size + 1 + 1, 2, none⟩ (.slice (some ⟨W.heap.size, 0, none⟩) 1 1) (w6.heap.size + 1) (by show (w6.heap.size + 1 : Nat) ≠ w6.heap.size + 1 + 1; omega)).trans ((Below.heap_setCell (W.setCell ⟨w6.heap.size, 0, none⟩ (.int .i64 7)) ⟨tb2, 1, none⟩ (.int .i64 0) (w6.heap.size + 1) (by show (w6.heap.size + 1 : Nat) ≠ tb2; omega)).trans ((Below.heap_setCell W ⟨w6.heap.size, 0, none⟩ (.int .i64 7) (w6.heap.size + 1) (by show (w6.heap.size + 1 : Nat) ≠ w6.heap.size; omega)).trans m2)))))) (.cells #[.int .i64 4] 3))
  have Fx3 := Lib.hid (blk_alloc ((Below.heap_setCell (((((W.setCell ⟨w6.heap.size, 0, none⟩ (.int .i64 7)).setCell ⟨tb2, 1, none⟩ (.int .i64 0)).setCell ⟨w6.heap.size + 1 + 1, 2, none⟩ (.slice (some ⟨W.heap.size, 0, none⟩) 1 1)).setCell ⟨w6.heap.size + 1 + 1 + 1, 0, none⟩ (.slice none 0 0)).setCell ⟨w6.heap.size + 1 + 1 + 1 + 1, 1, none⟩ (.int .i64 10)) ⟨w6.heap.size + 1 + 1 + 1 + 1 + 1, 1, none⟩ (.int .i64 3) (w6.heap.size + 1 + 1) (by show (w6.heap.size + 1 + 1 : Nat) ≠ w6.heap.size + 1 + 1 + 1 + 1 + 1; omega)).trans ((Below.heap_setCell ((((W.setCell ⟨w6.heap.size, 0, none⟩ (.int .i64 7)).setCell ⟨tb2, 1, none⟩ (.int .i64 0)).setCell ⟨w6.heap.size + 1 + 1, 2, none⟩ (.slice (some ⟨W.heap.size, 0, none⟩) 1 1)).setCell ⟨w6.heap.size + 1 + 1 + 1, 0, none⟩ (.slice none 0 0)) ⟨w6.heap.size + 1 + 1 + 1 + 1, 1, none⟩ (.int .i64 10) (w6.heap.size + 1 + 1) (by show (w6.heap.size + 1 + 1 : Nat) ≠ w6.heap.size + 1 + 1 + 1 + 1; omega)).trans ((Below.heap_setCell (((W.setCell ⟨w6.heap.size, 0, none⟩ (.int .i64 7)).setCell ⟨tb2, 1, none⟩ (.int .i64 0)).setCell ⟨w6.heap.size + 1 + 1, 2, none⟩ (.slice (some ⟨W.heap.size, 0, none⟩) 1 1)) ⟨w6.heap.size + 1 + 1 + 1, 0, none⟩ (.slice none 0 0) (w6.heap.size + 1 + 1) (by show (w6.heap.size + 1 + 1 : Nat) ≠ w6.heap.size + 1 + 1 + 1; omega)).trans (blk_set (i := 2) ((Below.heap_setCell (W.setCell ⟨w6.heap.size, 0, none⟩ (.int .i64 7)) ⟨tb2, 1, none⟩ (.int .i64 0) (w6.heap.size + 1 + 1) (by show (w6.heap.size + 1 + 1 : Nat) ≠ tb2; omega)).trans ((Below.heap_setCell W ⟨w6.heap.size, 0, none⟩ (.int .i64 7) (w6.heap.size + 1 + 1) (by show (w6.heap.size + 1 + 1 : Nat) ≠ w6.heap.size; omega)).trans m3)) (.slice (some ⟨W.heap.size, 0, none⟩) 1 1))))) (.cells #[.int .i64 4] 3))
  have Fx4 := Lib.hid (blk_alloc ((Below.heap_setCell (((((W.setCell ⟨w6.heap.size, 0, none⟩ (.int .i64 7)).setCell ⟨tb2, 1, none⟩ (.int .i64 0)).setCell ⟨w6.heap.size + 1 + 1, 2, none⟩ (.slice (some ⟨W.heap.size, 0, none⟩) 1 1)).setCell ⟨w6.heap.size + 1 + 1 + 1, 0, none⟩ (.slice none 0 0)).setCell ⟨w6.heap.size + 1 + 1 + 1 + 1, 1, none⟩ (.int .i64 10)) ⟨w6.heap.size + 1 + 1 + 1 + 1 + 1, 1, none⟩ (.int .i64 3) (w6.heap.size + 1 + 1 + 1) (by show (w6.heap.size + 1 + 1 + 1 : Nat) ≠ w6.heap.size + 1 + 1 + 1 + 1 + 1; omega)).trans ((Below.heap_setCell ((((W.setCell ⟨w6.heap.size, 0, none⟩ (.int .i64 7)).setCell ⟨tb2, 1, none⟩ (.int .i64 0)).setCell ⟨w6.heap.size + 1 + 1, 2, none⟩ (.slice (some ⟨W.heap.size, 0, none⟩) 1 1)).setCell ⟨w6.heap.size + 1 + 1 + 1, 0, none⟩ (.slice none 0 0)) ⟨w6.heap.size + 1 + 1 + 1 + 1, 1, none⟩ (.int .i64 10) (w6.heap.size + 1 + 1 + 1) (by show (w6.heap.size + 1 + 1 + 1 : Nat) ≠ w6.heap.size + 1 + 1 + 1 + 1; omega)).trans (blk_set (i := 0) ((Below.heap_setCell ((W.setCell ⟨w6.heap.size, 0, none⟩ (.int .i64 7)).setCell ⟨tb2, 1, none⟩ (.int .i64 0)) ⟨w6.heap.size + 1 + 1, 2, none⟩ (.slice (some ⟨W.heap.size, 0, none⟩) 1 1) (w6.heap.size + 1 + 1 + 1) (by show (w6.heap.size + 1 + 1 + 1 : Nat) ≠ w6.heap.size + 1 + 1; omega)).trans ((Below.heap_setCell (W.setCell ⟨w6.heap.size, 0, none⟩ (.int .i64 7)) ⟨tb2, 1, none⟩ (.int .i64 0) (w6.heap.size + 1 + 1 + 1) (by show (w6.heap.size + 1 + 1 + 1 : Nat) ≠ tb2; omega)).trans ((Below.heap_setCell W ⟨w6.heap.size, 0, none⟩ (.int .i64 7) (w6.heap.size + 1 + 1 + 1) (by show (w6.heap.size + 1 + 1 + 1 : Nat) ≠ w6.heap.size; omega)).trans m4))) (.slice none 0 0)))) (.cells #[.int .i64 4] 3))
  have Fx5 := Lib.hid (blk_alloc ((Below.heap_setCell (((((W.setCell ⟨w6.heap.size, 0, none⟩ (.int .i64 7)).setCell ⟨tb2, 1, none⟩ (.int .i64 0)).setCell ⟨w6.heap.size + 1 + 1, 2, none⟩ (.slice (some ⟨W.heap.size, 0, none⟩) 1 1)).setCell ⟨w6.heap.size + 1 + 1 + 1, 0, none⟩ (.slice none 0 0)).setCell ⟨w6.heap.size + 1 + 1 + 1 + 1, 1, none⟩ (.int .i64 10)) ⟨w6.heap.size + 1 + 1 + 1 + 1 + 1, 1, none⟩ (.int .i64 3) (w6.heap.size + 1 + 1 + 1 + 1) (by show (w6.heap.size + 1 + 1 + 1 + 1 : Nat) ≠ w6.heap.size + 1 + 1 + 1 + 1 + 1; omega)).trans (blk_set (i := 1) ((Below.heap_setCell (((W.setCell ⟨w6.heap.size, 0, none⟩ (.int .i64 7)).setCell ⟨tb2, 1, none⟩ (.int .i64 0)).setCell ⟨w6.heap.size + 1 + 1, 2, none⟩ (.slice (some ⟨W.heap.size, 0, none⟩) 1 1)) ⟨w6.heap.size + 1 + 1 + 1, 0, none⟩ (.slice none 0 0) (w6.heap.size + 1 + 1 + 1 + 1) (by show (w6.heap.size + 1 + 1 + 1 + 1 : Nat) ≠ w6.heap.size + 1 + 1 + 1; omega)).trans ((Below.heap_setCell ((W.setCell ⟨w6.heap.size, 0, none⟩ (.int .i64 7)).setCell ⟨tb2, 1, none⟩ (.int .i64 0)) ⟨w6.heap.size + 1 + 1, 2, none⟩ (.slice (some ⟨W.heap.size, 0, none⟩) 1 1) (w6.heap.size + 1 + 1 + 1 + 1) (by show (w6.heap.size + 1 + 1 + 1 + 1 : Nat) ≠ w6.heap.size + 1 + 1; omega)).trans ((Below.heap_setCell (W.setCell ⟨w6.heap.size, 0, none⟩ (.int .i64 7)) ⟨tb2, 1, none⟩ (.int .i64 0) (w6.heap.size + 1 + 1 + 1 + 1) (by show (w6.heap.size + 1 + 1 + 1 + 1 : Nat) ≠ tb2; omega)).trans ((Below.heap_setCell W ⟨w6.heap.size, 0, none⟩ (.int .i64 7) (w6.heap.size + 1 + 1 + 1 + 1) (by show (w6.heap.size + 1 + 1 + 1 + 1 : Nat) ≠ w6.heap.size; omega)).trans m5)))) (.int .i64 10))) (.cells #[.int .i64 4] 3))
  have Fx6 := Lib.hid (blk_alloc (blk_set (i := 1) ((Below.heap_setCell ((((W.setCell ⟨w6.heap.size, 0, none⟩ (.int .i64 7)).setCell ⟨tb2, 1, none⟩ (.int .i64 0)).setCell ⟨w6.heap.size + 1 + 1, 2, none⟩ (.slice (some ⟨W.heap.size, 0, none⟩) 1 1)).setCell ⟨w6.heap.size + 1 + 1 + 1, 0, none⟩ (.slice none 0 0)) ⟨w6.heap.size + 1 + 1 + 1 + 1, 1, none⟩ (.int .i64 10) (w6.heap.size + 1 + 1 + 1 + 1 + 1) (by show (w6.heap.size + 1 + 1 + 1 + 1 + 1 : Nat) ≠ w6.heap.size + 1 + 1 + 1 + 1; omega)).trans ((Below.heap_setCell (((W.setCell ⟨w6.heap.size, 0, none⟩ (.int .i64 7)).setCell ⟨tb2, 1, none⟩ (.int .i64 0)).setCell ⟨w6.heap.size + 1 + 1, 2, none⟩ (.slice (some ⟨W.heap.size, 0, none⟩) 1 1)) ⟨w6.heap.size + 1 + 1 + 1, 0, none⟩ (.slice none 0 0) (w6.heap.size + 1 + 1 + 1 + 1 + 1) (by show (w6.heap.size + 1 + 1 + 1 + 1 + 1 : Nat) ≠ w6.heap.size + 1 + 1 + 1; omega)).trans ((Below.heap_setCell ((W.setCell ⟨w6.heap.size, 0, none⟩ (.int .i64 7)).setCell ⟨tb2, 1, none⟩ (.int .i64 0)) ⟨w6.heap.size + 1 + 1, 2, none⟩ (.slice (some ⟨W.heap.size, 0, none⟩) 1 1) (w6.heap.size + 1 + 1 + 1 + 1 + 1) (by show (w6.heap.size + 1 + 1 + 1 + 1 + 1 : Nat) ≠ w6.heap.size + 1 + 1; omega)).trans ((Below.heap_setCell (W.setCell ⟨w6.heap.size, 0, none⟩ (.int .i64 7)) ⟨tb2, 1, none⟩ (.int .i64 0) (w6.heap.size + 1 + 1 + 1 + 1 + 1) (by show (w6.heap.size + 1 + 1 + 1 + 1 + 1 : Nat) ≠ tb2; omega)).trans ((Below.heap_setCell W ⟨w6.heap.size, 0, none⟩ (.int .i64 7) (w6.heap.size + 1 + 1 + 1 + 1 + 1) (by show (w6.heap.size + 1 + 1 + 1 + 1 + 1 : Nat) ≠ w6.heap.size; omega)).trans m6))))) (.int .i64 3)) (.cells #[.int .i64 4] 3))
  have Ftb2 := Lib.hid (blk_alloc ((Below.heap_setCell (((((W.setCell ⟨w6.heap.size, 0, none⟩ (.int .i64 7)).setCell ⟨tb2, 1, none⟩ (.int .i64 0)).setCell ⟨w6.heap.size + 1 + 1, 2, none⟩ (.slice (some ⟨W.heap.size, 0, none⟩) 1 1)).setCell ⟨w6.heap.size + 1 + 1 + 1, 0, none⟩ (.slice none 0 0)).setCell ⟨w6.heap.size + 1 + 1 + 1 + 1, 1, none⟩ (.int .i64 10)) ⟨w6.heap.size + 1 + 1 + 1 + 1 + 1, 1, none⟩ (.int .i64 3) (tb2) (by show (tb2 : Nat) ≠ w6.heap.size + 1 + 1 + 1 + 1 + 1; omega)).trans ((Below.heap_setCell ((((W.setCell ⟨w6.heap.size, 0, none⟩ (.int .i64 7)).setCell ⟨tb2, 1, none⟩ (.int .i64 0)).setCell ⟨w6.heap.size + 1 + 1, 2, none⟩ (.slice (some ⟨W.heap.size, 0, none⟩) 1 1)).setCell ⟨w6.heap.size + 1 + 1 + 1, 0, none⟩ (.slice none 0 0)) ⟨w6.heap.size + 1 + 1 + 1 + 1, 1, none⟩ (.int .i64 10) (tb2) (by show (tb2 : Nat) ≠ w6.heap.size + 1 + 1 + 1 + 1; omega)).trans ((Below.heap_setCell (((W.setCell ⟨w6.heap.size, 0, none⟩ (.int .i64 7)).setCell ⟨tb2, 1, none⟩ (.int .i64 0)).setCell ⟨w6.heap.size + 1 + 1, 2, none⟩ (.slice (some ⟨W.heap.size, 0, none⟩) 1 1)) ⟨w6.heap.size + 1 + 1 + 1, 0, none⟩ (.slice none 0 0) (tb2) (by show (tb2 : Nat) ≠ w6.heap.size + 1 + 1 + 1; omega)).trans ((Below.heap_setCell ((W.setCell ⟨w6.heap.size, 0, none⟩ (.int .i64 7)).setCell ⟨tb2, 1, none⟩ (.int .i64 0)) ⟨w6.heap.size + 1 + 1, 2, none⟩ (.slice (some ⟨W.heap.size, 0, none⟩) 1 1) (tb2) (by show (tb2 : Nat) ≠ w6.heap.size + 1 + 1; omega)).trans (blk_set (i := 1) ((Below.heap_setCell W ⟨w6.heap.size, 0, none⟩ (.int .i64 7) (tb2) (by show (tb2 : Nat) ≠ w6.heap.size; omega)).trans ht6) (.int .i64 0)))))) (.cells #[.int .i64 4] 3))
  have Ftb1 := Lib.hid (blk_alloc ((Below.heap_setCell (((((W.setCell ⟨w6.heap.size, 0, none⟩ (.int .i64 7)).setCell ⟨tb2, 1, none⟩ (.int .i64 0)).setCell ⟨w6.heap.size + 1 + 1, 2, none⟩ (.slice (some ⟨W.heap.size, 0, none⟩) 1 1)).setCell ⟨w6.heap.size + 1 + 1 + 1, 0, none⟩ (.slice none 0 0)).setCell ⟨w6.heap.size + 1 + 1 + 1 + 1, 1, none⟩ (.int .i64 10)) ⟨w6.heap.size + 1 + 1 + 1 + 1 + 1, 1, none⟩ (.int .i64 3) (tb1) (by show (tb1 : Nat) ≠ w6.heap.size + 1 + 1 + 1 + 1 + 1; omega)).trans ((Below.heap_setCell ((((W.setCell ⟨w6.heap.size, 0, none⟩ (.int .i64 7)).setCell ⟨tb2, 1, none⟩ (.int .i64 0)).setCell ⟨w6.heap.size + 1 + 1, 2, none⟩ (.slice (some ⟨W.heap.size, 0, none⟩) 1 1)).setCell ⟨w6.heap.size + 1 + 1 + 1, 0, none⟩ (.slice none 0 0)) ⟨w6.heap.size + 1 + 1 + 1 + 1, 1, none⟩ (.int .i64 10) (tb1) (by show (tb1 : Nat) ≠ w6.heap.size + 1 + 1 + 1 + 1; omega)).trans ((Below.heap_setCell (((W.setCell ⟨w6.heap.size, 0, none⟩ (.int .i64 7)).setCell ⟨tb2, 1, none⟩ (.int .i64 0)).setCell ⟨w6.heap.size + 1 + 1, 2, none⟩ (.slice (some ⟨W.heap.size, 0, none⟩) 1 1)) ⟨w6.heap.size + 1 + 1 + 1, 0, none⟩ (.slice none 0 0) (tb1) (by show (tb1 : Nat) ≠ w6.heap.size + 1 + 1 + 1; omega)).trans ((Below.heap_setCell ((W.setCell ⟨w6.heap.size, 0, none⟩ (.int .i64 7)).setCell ⟨tb2, 1, none⟩ (.int .i64 0)) ⟨w6.heap.size + 1 + 1, 2, none⟩ (.slice (some ⟨W.heap.size, 0, none⟩) 1 1) (tb1) (by show (tb1 : Nat) ≠ w6.heap.size + 1 + 1; omega)).trans ((Below.heap_setCell (W.setCell ⟨w6.heap.size, 0, none⟩ (.int .i64 7)) ⟨tb2, 1, none⟩ (.int .i64 0) (tb1) (by show (tb1 : Nat) ≠ tb2; omega)).trans ((Below.heap_setCell W ⟨w6.heap.size, 0, none⟩ (.int .i64 7) (tb1) (by show (tb1 : Nat) ≠ w6.heap.size; omega)).trans (blk_below Btb1.out hbW (lt_of_block Btb1.out)))))))) (.cells #[.int .i64 4] 3))
  have Fsb1 := Lib.hid (blk_alloc ((Below.heap_setCell (((((W.setCell ⟨w6.heap.size, 0, none⟩ (.int .i64 7)).setCell ⟨tb2, 1, none⟩ (.int .i64 0)).setCell ⟨w6.heap.size + 1 + 1, 2, none⟩ (.slice (some ⟨W.heap.size, 0, none⟩) 1 1)).setCell ⟨w6.heap.size + 1 + 1 + 1, 0, none⟩ (.slice none 0 0)).setCell ⟨w6.heap.size + 1 + 1 + 1 + 1, 1, none⟩ (.int .i64 10)) ⟨w6.heap.size + 1 + 1 + 1 + 1 + 1, 1, none⟩ (.int .i64 3) (sb1) (by show (sb1 : Nat) ≠ w6.heap.size + 1 + 1 + 1 + 1 + 1; omega)).trans ((Below.heap_setCell ((((W.setCell ⟨w6.heap.size, 0, none⟩ (.int .i64 7)).setCell ⟨tb2, 1, none⟩ (.int .i64 0)).setCell ⟨w6.heap.size + 1 + 1, 2, none⟩ (.slice (some ⟨W.heap.size, 0, none⟩) 1 1)).setCell ⟨w6.heap.size + 1 + 1 + 1, 0, none⟩ (.slice none 0 0)) ⟨w6.heap.size + 1 + 1 + 1 + 1, 1, none⟩ (.int .i64 10) (sb1) (by show (sb1 : Nat) ≠ w6.heap.size + 1 + 1 + 1 + 1; omega)).trans ((Below.heap_setCell (((W.setCell ⟨w6.heap.size, 0, none⟩ (.int .i64 7)).setCell ⟨tb2, 1, none⟩ (.int .i64 0)).setCell ⟨w6.heap.size + 1 + 1, 2, none⟩ (.slice (some ⟨W.heap.size, 0, none⟩) 1 1)) ⟨w6.heap.size + 1 + 1 + 1, 0, none⟩ (.slice none 0 0) (sb1) (by show (sb1 : Nat) ≠ w6.heap.size + 1 + 1 + 1; omega)).trans ((Below.heap_setCell ((W.setCell ⟨w6.heap.size, 0, none⟩ (.int .i64 7)).setCell ⟨tb2, 1, none⟩ (.int .i64 0)) ⟨w6.heap.size + 1 + 1, 2, none⟩ (.slice (some ⟨W.heap.size, 0, none⟩) 1 1) (sb1) (by show (sb1 : Nat) ≠ w6.heap.size + 1 + 1; omega)).trans ((Below.heap_setCell (W.setCell ⟨w6.heap.size, 0, none⟩ (.int .i64 7)) ⟨tb2, 1, none⟩ (.int .i64 0) (sb1) (by show (sb1 : Nat) ≠ tb2; omega)).trans ((Below.heap_setCell W ⟨w6.heap.size, 0, none⟩ (.int .i64 7) (sb1) (by show (sb1 : Nat) ≠ w6.heap.size; omega)).trans (blk_below Bsb1.out hbW (lt_of_block Bsb1.out)))))))) (.cells #[.int .i64 4] 3))
  have Fsb2 := Lib.hid (blk_alloc ((Below.heap_setCell (((((W.setCell ⟨w6.heap.size, 0, none⟩ (.int .i64 7)).setCell ⟨tb2, 1, none⟩ (.int .i64 0)).setCell ⟨w6.heap.size + 1 + 1, 2, none⟩ (.slice (some ⟨W.heap.size, 0, none⟩) 1 1)).setCell ⟨w6.heap.size + 1 + 1 + 1, 0, none⟩ (.slice none 0 0)).setCell ⟨w6.heap.size + 1 + 1 + 1 + 1, 1, none⟩ (.int .i64 10)) ⟨w6.heap.size + 1 + 1 + 1 + 1 + 1, 1, none⟩ (.int .i64 3) (sb2) (by show (sb2 : Nat) ≠ w6.heap.size + 1 + 1 + 1 + 1 + 1; omega)).trans ((Below.heap_setCell ((((W.setCell ⟨w6.heap.size, 0, none⟩ (.int .i64 7)).setCell ⟨tb2, 1, none⟩ (.int .i64 0)).setCell ⟨w6.heap.size + 1 + 1, 2, none⟩ (.slice (some ⟨W.heap.size, 0, none⟩) 1 1)).setCell ⟨w6.heap.size + 1 + 1 + 1, 0, none⟩ (.slice none 0 0)) ⟨w6.heap.size + 1 + 1 + 1 + 1, 1, none⟩ (.int .i64 10) (sb2) (by show (sb2 : Nat) ≠ w6.heap.size + 1 + 1 + 1 + 1; omega)).trans ((Below.heap_setCell (((W.setCell ⟨w6.heap.size, 0, none⟩ (.int .i64 7)).setCell ⟨tb2, 1, none⟩ (.int .i64 0)).setCell ⟨w6.heap.size + 1 + 1, 2, none⟩ (.slice (some ⟨W.heap.size, 0, none⟩) 1 1)) ⟨w6.heap.size + 1 + 1 + 1, 0, none⟩ (.slice none 0 0) (sb2) (by show (sb2 : Nat) ≠ w6.heap.size + 1 + 1 + 1; omega)).trans ((Below.heap_setCell ((W.setCell ⟨w6.heap.size, 0, none⟩ (.int .i64 7)).setCell ⟨tb2, 1, none⟩ (.int .i64 0)) ⟨w6.heap.size + 1 + 1, 2, none⟩ (.slice (some ⟨W.heap.size, 0, none⟩) 1 1) (sb2) (by show (sb2 : Nat) ≠ w6.heap.size + 1 + 1; omega)).trans ((Below.heap_setCell (W.setCell ⟨w6.heap.size, 0, none⟩ (.int .i64 7)) ⟨tb2, 1, none⟩ (.int .i64 0) (sb2) (by show (sb2 : Nat) ≠ tb2; omega)).trans ((Below.heap_setCell W ⟨w6.heap.size, 0, none⟩ (.int .i64 7) (sb2) (by show (sb2 : Nat) ≠ w6.heap.size; omega)).trans (blk_below Bsb2.out hbW (lt_of_block Bsb2.out)))))))) (.cells #[.int .i64 4] 3))
  have Ftb3 := Lib.hid (blk_alloc ((Below.heap_setCell (((((W.setCell ⟨w6.heap.size, 0, none⟩ (.int .i64 7)).setCell ⟨tb2, 1, none⟩ (.int .i64 0)).setCell ⟨w6.heap.size + 1 + 1, 2, none⟩ (.slice (some ⟨W.heap.size, 0, none⟩) 1 1)).setCell ⟨w6.heap.size + 1 + 1 + 1, 0, none⟩ (.slice none 0 0)).setCell ⟨w6.heap.size + 1 + 1 + 1 + 1, 1, none⟩ (.int .i64 10)) ⟨w6.heap.size + 1 + 1 + 1 + 1 + 1, 1, none⟩ (.int .i64 3) (tb3) (by show (tb3 : Nat) ≠ w6.heap.size + 1 + 1 + 1 + 1 + 1; omega)).trans ((Below.heap_setCell ((((W.setCell ⟨w6.heap.size, 0, none⟩ (.int .i64 7)).setCell ⟨tb2, 1, none⟩ (.int .i64 0)).setCell ⟨w6.heap.size + 1 + 1, 2, none⟩ (.slice (some ⟨W.heap.size, 0, none⟩) 1 1)).setCell ⟨w6.heap.size + 1 + 1 + 1, 0, none⟩ (.slice none 0 0)) ⟨w6.heap.size + 1 + 1 + 1 + 1, 1, none⟩ (.int .i64 10) (tb3) (by show (tb3 : Nat) ≠ w6.heap.size + 1 + 1 + 1 + 1; omega)).trans ((Below.heap_setCell (((W.setCell ⟨w6.heap.size, 0, none⟩ (.int .i64 7)).setCell ⟨tb2, 1, none⟩ (.int .i64 0)).setCell ⟨w6.heap.size + 1 + 1, 2, none⟩ (.slice (some ⟨W.heap.size, 0, none⟩) 1 1)) ⟨w6.heap.size + 1 + 1 + 1, 0, none⟩ (.slice none 0 0) (tb3) (by show (tb3 : Nat) ≠ w6.heap.size + 1 + 1 + 1; omega)).trans ((Below.heap_setCell ((W.setCell ⟨w6.heap.size, 0, none⟩ (.int .i64 7)).setCell ⟨tb2, 1, none⟩ (.int .i64 0)) ⟨w6.heap.size + 1 + 1, 2, none⟩ (.slice (some ⟨W.heap.size, 0, none⟩) 1 1) (tb3) (by show (tb3 : Nat) ≠ w6.heap.size + 1 + 1; omega)).trans ((Below.heap_setCell (W.setCell ⟨w6.heap.size, 0, none⟩ (.int .i64 7)) ⟨tb2, 1, none⟩ (.int .i64 0) (tb3) (by show (tb3 : Nat) ≠ tb2; omega)).trans ((Below.heap_setCell W ⟨w6.heap.size, 0, none⟩ (.int .i64 7) (tb3) (by show (tb3 : Nat) ≠ w6.heap.size; omega)).trans (blk_below Btb3.out hbW (lt_of_block Btb3.out)))))))) (.cells #[.int .i64 4] 3))
  have Fsb3 := Lib.hid (blk_alloc ((Below.heap_setCell (((((W.setCell ⟨w6.heap.size, 0, none⟩ (.int .i64 7)).setCell ⟨tb2, 1, none⟩ (.int .i64 0)).setCell ⟨w6.heap.size + 1 + 1, 2, none⟩ (.slice (some ⟨W.heap.size, 0, none⟩) 1 1)).setCell ⟨w6.heap.size + 1 + 1 + 1, 0, none⟩ (.slice none 0 0)).setCell ⟨w6.heap.size + 1 + 1 + 1 + 1, 1, none⟩ (.int .i64 10)) ⟨w6.heap.size + 1 + 1 + 1 + 1 + 1, 1, none⟩ (.int .i64 3) (sb3) (by show (sb3 : Nat) ≠ w6.heap.size + 1 + 1 + 1 + 1 + 1; omega)).trans ((Below.heap_setCell ((((W.setCell ⟨w6.heap.size, 0, none⟩ (.int .i64 7)).setCell ⟨tb2, 1, none⟩ (.int .i64 0)).setCell ⟨w6.heap.size + 1 + 1, 2, none⟩ (.slice (some ⟨W.heap.size, 0, none⟩) 1 1)).setCell ⟨w6.heap.size + 1 + 1 + 1, 0, none⟩ (.slice none 0 0)) ⟨w6.heap.size + 1 + 1 + 1 + 1, 1, none⟩ (.int .i64 10) (sb3) (by show (sb3 : Nat) ≠ w6.heap.size + 1 + 1 + 1 + 1; omega)).trans ((Below.heap_setCell (((W.setCell ⟨w6.heap.size, 0, none⟩ (.int .i64 7)).setCell ⟨tb2, 1, none⟩ (.int .i64 0)).setCell ⟨w6.heap.size + 1 + 1, 2, none⟩ (.slice (some ⟨W.heap.size, 0, none⟩) 1 1)) ⟨w6.heap.size + 1 + 1 + 1, 0, none⟩ (.slice none 0 0) (sb3) (by show (sb3 : Nat) ≠ w6.heap.size + 1 + 1 + 1; omega)).trans ((Below.heap_setCell ((W.setCell ⟨w6.heap.size, 0, none⟩ (.int .i64 7)).setCell ⟨tb2, 1, none⟩ (.int .i64 0)) ⟨w6.heap.size + 1 + 1, 2, none⟩ (.slice (some ⟨W.heap.size, 0, none⟩) 1 1) (sb3) (by show (sb3 : Nat) ≠ w6.heap.size + 1 + 1; omega)).trans ((Below.heap_setCell (W.setCell ⟨w6.heap.size, 0, none⟩ (.int .i64 7)) ⟨tb2, 1, none⟩ (.int .i64 0) (sb3) (by show (sb3 : Nat) ≠ tb2; omega)).trans ((Below.heap_setCell W ⟨w6.heap.size, 0, none⟩ (.int .i64 7) (sb3) (by show (sb3 : Nat) ≠ w6.heap.size; omega)).trans (blk_below Bsb3.out hbW (lt_of_block Bsb3.out)))))))) (.cells #[.int .i64 4] 3))
  have Fgb4 := Lib.hid (blk_alloc ((Below.heap_setCell (((((W.setCell ⟨w6.heap.size, 0, none⟩ (.int .i64 7)).setCell ⟨tb2, 1, none⟩ (.int .i64 0)).setCell ⟨w6.heap.size + 1 + 1, 2, none⟩ (.slice (some ⟨W.heap.size, 0, none⟩) 1 1)).setCell ⟨w6.heap.size + 1 + 1 + 1, 0, none⟩ (.slice none 0 0)).setCell ⟨w6.heap.size + 1 + 1 + 1 + 1, 1, none⟩ (.int .i64 10)) ⟨w6.heap.size + 1 + 1 + 1 + 1 + 1, 1, none⟩ (.int .i64 3) (gb4) (by show (gb4 : Nat) ≠ w6.heap.size + 1 + 1 + 1 + 1 + 1; omega)).trans ((Below.heap_setCell ((((W.setCell ⟨w6.heap.size, 0, none⟩ (.int .i64 7)).setCell ⟨tb2, 1, none⟩ (.int .i64 0)).setCell ⟨w6.heap.size + 1 + 1, 2, none⟩ (.slice (some ⟨W.heap.size, 0, none⟩) 1 1)).setCell ⟨w6.heap.size + 1 + 1 + 1, 0, none⟩ (.slice none 0 0)) ⟨w6.heap.size + 1 + 1 + 1 + 1, 1, none⟩ (.int .i64 10) (gb4) (by show (gb4 : Nat) ≠ w6.heap.size + 1 + 1 + 1 + 1; omega)).trans ((Below.heap_setCell (((W.setCell ⟨w6.heap.size, 0, none⟩ (.int .i64 7)).setCell ⟨tb2, 1, none⟩ (.int .i64 0)).setCell ⟨w6.heap.size + 1 + 1, 2, none⟩ (.slice (some ⟨W.heap.size, 0, none⟩) 1 1)) ⟨w6.heap.size + 1 + 1 + 1, 0, none⟩ (.slice none 0 0) (gb4) (by show (gb4 : Nat) ≠ w6.heap.size + 1 + 1 + 1; omega)).trans ((Below.heap_setCell ((W.setCell ⟨w6.heap.size, 0, none⟩ (.int .i64 7)).setCell ⟨tb2, 1, none⟩ (.int .i64 0)) ⟨w6.heap.size + 1 + 1, 2, none⟩ (.slice (some ⟨W.heap.size, 0, none⟩) 1 1) (gb4) (by show (gb4 : Nat) ≠ w6.heap.size + 1 + 1; omega)).trans ((Below.heap_setCell (W.setCell ⟨w6.heap.size, 0, none⟩ (.int .i64 7)) ⟨tb2, 1, none⟩ (.int .i64 0) (gb4) (by show (gb4 : Nat) ≠ tb2; omega)).trans ((Below.heap_setCell W ⟨w6.heap.size, 0, none⟩ (.int .i64 7) (gb4) (by show (gb4 : Nat) ≠ w6.heap.size; omega)).trans (blk_below Bgb4.out hbW (lt_of_block Bgb4.out)))))))) (.cells #[.int .i64 4] 3))
  have Fbb4 := Lib.hid (blk_alloc ((Below.heap_setCell (((((W.setCell ⟨w6.heap.size, 0, none⟩ (.int .i64 7)).setCell ⟨tb2, 1, none⟩ (.int .i64 0)).setCell ⟨w6.heap.size + 1 + 1, 2, none⟩ (.slice (some ⟨W.heap.size, 0, none⟩) 1 1)).setCell ⟨w6.heap.size + 1 + 1 + 1, 0, none⟩ (.slice none 0 0)).setCell ⟨w6.heap.size + 1 + 1 + 1 + 1, 1, none⟩ (.int .i64 10)) ⟨w6.heap.size + 1 + 1 + 1 + 1 + 1, 1, none⟩ (.int .i64 3) (bb4) (by show (bb4 : Nat) ≠ w6.heap.size + 1 + 1 + 1 + 1 + 1; omega)).trans ((Below.heap_setCell ((((W.setCell ⟨w6.heap.size, 0, none⟩ (.int .i64 7)).setCell ⟨tb2, 1, none⟩ (.int .i64 0)).setCell ⟨w6.heap.size + 1 + 1, 2, none⟩ (.slice (some ⟨W.heap.size, 0, none⟩) 1 1)).setCell ⟨w6.heap.size + 1 + 1 + 1, 0, none⟩ (.slice none 0 0)) ⟨w6.heap.size + 1 + 1 + 1 + 1, 1, none⟩ (.int .i64 10) (bb4) (by show (bb4 : Nat) ≠ w6.heap.size + 1 + 1 + 1 + 1; omega)).trans ((Below.heap_setCell (((W.setCell ⟨w6.heap.size, 0, none⟩ (.int .i64 7)).setCell ⟨tb2, 1, none⟩ (.int .i64 0)).setCell ⟨w6.heap.size + 1 + 1, 2, none⟩ (.slice (some ⟨W.heap.size, 0, none⟩) 1 1)) ⟨w6.heap.size + 1 + 1 + 1, 0, none⟩ (.slice none 0 0) (bb4) (by show (bb4 : Nat) ≠ w6.heap.size + 1 + 1 + 1; omega)).trans ((Below.heap_setCell ((W.setCell ⟨w6.heap.size, 0, none⟩ (.int .i64 7)).setCell ⟨tb2, 1, none⟩ (.int .i64 0)) ⟨w6.heap.size + 1 + 1, 2, none⟩ (.slice (some ⟨W.heap.size, 0, none⟩) 1 1) (bb4) (by show (bb4 : Nat) ≠ w6.heap.size + 1 + 1; omega)).trans ((Below.heap_setCell (W.setCell ⟨w6.heap.size, 0, none⟩ (.int .i64 7)) ⟨tb2, 1, none⟩ (.int .i64 0) (bb4) (by show (bb4 : Nat) ≠ tb2; omega)).trans ((Below.heap_setCell W ⟨w6.heap.size, 0, none⟩ (.int .i64 7) (bb4) (by show (bb4 : Nat) ≠ w6.heap.size; omega)).trans (blk_below Bbb4.out hbW (lt_of_block Bbb4.out)))))))) (.cells #[.int .i64 4] 3))
  have Fgb5 := Lib.hid (blk_alloc ((Below.heap_setCell (((((W.setCell ⟨w6.heap.size, 0, none⟩ (.int .i64 7)).setCell ⟨tb2, 1, none⟩ (.int .i64 0)).setCell ⟨w6.heap.size + 1 + 1, 2, none⟩ (.slice (some ⟨W.heap.size, 0, none⟩) 1 1)).setCell ⟨w6.heap.size + 1 + 1 + 1, 0, none⟩ (.slice none 0 0)).setCell ⟨w6.heap.size + 1 + 1 + 1 + 1, 1, none⟩ (.int .i64 10)) ⟨w6.heap.size + 1 + 1 + 1 + 1 + 1, 1, none⟩ (.int .i64 3) (gb5) (by show (gb5 : Nat) ≠ w6.heap.size + 1 + 1 + 1 + 1 + 1; omega)).trans ((Below.heap_setCell ((((W.setCell ⟨w6.heap.size, 0, none⟩ (.int .i64 7)).setCell ⟨tb2, 1, none⟩ (.int .i64 0)).setCell ⟨w6.heap.size + 1 + 1, 2, none⟩ (.slice (some ⟨W.heap.size, 0, none⟩) 1 1)).setCell ⟨w6.heap.size + 1 + 1 + 1, 0, none⟩ (.slice none 0 0)) ⟨w6.heap.size + 1 + 1 + 1 + 1, 1, none⟩ (.int .i64 10) (gb5) (by show (gb5 : Nat) ≠ w6.heap.size + 1 + 1 + 1 + 1; omega)).trans ((Below.heap_setCell (((W.setCell ⟨w6.heap.size, 0, none⟩ (.int .i64 7)).setCell ⟨tb2, 1, none⟩ (.int .i64 0)).setCell ⟨w6.heap.size + 1 + 1, 2, none⟩ (.slice (some ⟨W.heap.size, 0, none⟩) 1 1)) ⟨w6.heap.size + 1 + 1 + 1, 0, none⟩ (.slice none 0 0) (gb5) (by show (gb5 : Nat) ≠ w6.heap.size + 1 + 1 + 1; omega)).trans ((Below.heap_setCell ((W.setCell ⟨w6.heap.size, 0, none⟩ (.int .i64 7)).setCell ⟨tb2, 1, none⟩ (.int .i64 0)) ⟨w6.heap.size + 1 + 1, 2, none⟩ (.slice (some ⟨W.heap.size, 0, none⟩) 1 1) (gb5) (by show (gb5 : Nat) ≠ w6.heap.size + 1 + 1; omega)).trans ((Below.heap_setCell (W.setCell ⟨w6.heap.size, 0, none⟩ (.int .i64 7)) ⟨tb2, 1, none⟩ (.int .i64 0) (gb5) (by show (gb5 : Nat) ≠ tb2; omega)).trans ((Below.heap_setCell W ⟨w6.heap.size, 0, none⟩ (.int .i64 7) (gb5) (by show (gb5 : Nat) ≠ w6.heap.size; omega)).trans (blk_below Bgb5.out hbW (lt_of_block Bgb5.out)))))))) (.cells #[.int .i64 4] 3))
  have Fbb5 := Lib.hid (blk_alloc ((Below.heap_setCell (((((W.setCell ⟨w6.heap.size, 0, none⟩ (.int .i64 7)).setCell ⟨tb2, 1, none⟩ (.int .i64 0)).setCell ⟨w6.heap.size + 1 + 1, 2, none⟩ (.slice (some ⟨W.heap.size, 0, none⟩) 1 1)).setCell ⟨w6.heap.size + 1 + 1 + 1, 0, none⟩ (.slice none 0 0)).setCell ⟨w6.heap.size + 1 + 1 + 1 + 1, 1, none⟩ (.int .i64 10)) ⟨w6.heap.size + 1 + 1 + 1 + 1 + 1, 1, none⟩ (.int .i64 3) (bb5) (by show (bb5 : Nat) ≠ w6.heap.size + 1 + 1 + 1 + 1 + 1; omega)).trans ((Below.heap_setCell ((((W.setCell ⟨w6.heap.size, 0, none⟩ (.int .i64 7)).setCell ⟨tb2, 1, none⟩ (.int .i64 0)).setCell ⟨w6.heap.size + 1 + 1, 2, none⟩ (.slice (some ⟨W.heap.size, 0, none⟩) 1 1)).setCell ⟨w6.heap.size + 1 + 1 + 1, 0, none⟩ (.slice none 0 0)) ⟨w6.heap.size + 1 + 1 + 1 + 1, 1, none⟩ (.int .i64 10) (bb5) (by show (bb5 : Nat) ≠ w6.heap.size + 1 + 1 + 1 + 1; omega)).trans ((Below.heap_setCell (((W.setCell ⟨w6.heap.size, 0, none⟩ (.int .i64 7)).setCell ⟨tb2, 1, none⟩ (.int .i64 0)).setCell ⟨w6.heap.size + 1 + 1, 2, none⟩ (.slice (some ⟨W.heap.size, 0, none⟩) 1 1)) ⟨w6.heap.size + 1 + 1 + 1, 0, none⟩ (.slice none 0 0) (bb5) (by show (bb5 : Nat) ≠ w6.heap.size + 1 + 1 + 1; omega)).trans ((Below.heap_setCell ((W.setCell ⟨w6.heap.size, 0, none⟩ (.int .i64 7)).setCell ⟨tb2, 1, none⟩ (.int .i64 0)) ⟨w6.heap.size + 1 + 1, 2, none⟩ (.slice (some ⟨W.heap.size, 0, none⟩) 1 1) (bb5) (by show (bb5 : Nat) ≠ w6.heap.size + 1 + 1; omega)).trans ((Below.heap_setCell (W.setCell ⟨w6.heap.size, 0, none⟩ (.int .i64 7)) ⟨tb2, 1, none⟩ (.int .i64 0) (bb5) (by show (bb5 : Nat) ≠ tb2; omega)).trans ((Below.heap_setCell W ⟨w6.heap.size, 0, none⟩ (.int .i64 7) (bb5) (by show (bb5 : Nat) ≠ w6.heap.size; omega)).trans (blk_below Bbb5.out hbW (lt_of_block Bbb5.out)))))))) (.cells #[.int .i64 4] 3))
  have Fgb6 := Lib.hid (blk_alloc ((Below.heap_setCell (((((W.setCell ⟨w6.heap.size, 0, none⟩ (.int .i64 7)).setCell ⟨tb2, 1, none⟩ (.int .i64 0)).setCell ⟨w6.heap.size + 1 + 1, 2, none⟩ (.slice (some ⟨W.heap.size, 0, none⟩) 1 1)).setCell ⟨w6.heap.size + 1 + 1 + 1, 0, none⟩ (.slice none 0 0)).setCell ⟨w6.heap.size + 1 + 1 + 1 + 1, 1, none⟩ (.int .i64 10)) ⟨w6.heap.size + 1 + 1 + 1 + 1 + 1, 1, none⟩ (.int .i64 3) (gb6) (by show (gb6 : Nat) ≠ w6.heap.size + 1 + 1 + 1 + 1 + 1; omega)).trans ((Below.heap_setCell ((((W.setCell ⟨w6.heap.size, 0, none⟩ (.int .i64 7)).setCell ⟨tb2, 1, none⟩ (.int .i64 0)).setCell ⟨w6.heap.size + 1 + 1, 2, none⟩ (.slice (some ⟨W.heap.size, 0, none⟩) 1 1)).setCell ⟨w6.heap.size + 1 + 1 + 1, 0, none⟩ (.slice none 0 0)) ⟨w6.heap.size + 1 + 1 + 1 + 1, 1, none⟩ (.int .i64 10) (gb6) (by show (gb6 : Nat) ≠ w6.heap.size + 1 + 1 + 1 + 1; omega)).trans ((Below.heap_setCell (((W.setCell ⟨w6.heap.size, 0, none⟩ (.int .i64 7)).setCell ⟨tb2, 1, none⟩ (.int .i64 0)).setCell ⟨w6.heap.size + 1 + 1, 2, none⟩ (.slice (some ⟨W.heap.size, 0, none⟩) 1 1)) ⟨w6.heap.size + 1 + 1 + 1, 0, none⟩ (.slice none 0 0) (gb6) (by show (gb6 : Nat) ≠ w6.heap.size + 1 + 1 + 1; omega)).trans ((Below.heap_setCell ((W.setCell ⟨w6.heap.size, 0, none⟩ (.int .i64 7)).setCell ⟨tb2, 1, none⟩ (.int .i64 0)) ⟨w6.heap.size + 1 + 1, 2, none⟩ (.slice (some ⟨W.heap.size, 0, none⟩) 1 1) (gb6) (by show (gb6 : Nat) ≠ w6.heap.size + 1 + 1; omega)).trans ((Below.heap_setCell (W.setCell ⟨w6.heap.size, 0, none⟩ (.int .i64 7)) ⟨tb2, 1, none⟩ (.int .i64 0) (gb6) (by show (gb6 : Nat) ≠ tb2; omega)).trans ((Below.heap_setCell W ⟨w6.heap.size, 0, none⟩ (.int .i64 7) (gb6) (by show (gb6 : Nat) ≠ w6.heap.size; omega)).trans (blk_below Bgb6.out hbW (lt_of_block Bgb6.out)))))))) (.cells #[.int .i64 4] 3))
  have Fbb6 := Lib.hid (blk_alloc ((Below.heap_setCell (((((W.setCell ⟨w6.heap.size, 0, none⟩ (.int .i64 7)).setCell ⟨tb2, 1, none⟩ (.int .i64 0)).setCell ⟨w6.heap.size + 1 + 1, 2, none⟩ (.slice (some ⟨W.heap.size, 0, none⟩) 1 1)).setCell ⟨w6.heap.size + 1 + 1 + 1, 0, none⟩ (.slice none 0 0)).setCell ⟨w6.heap.size + 1 + 1 + 1 + 1, 1, none⟩ (.int .i64 10)) ⟨w6.heap.size + 1 + 1 + 1 + 1 + 1, 1, none⟩ (.int .i64 3) (bb6) (by show (bb6 : Nat) ≠ w6.heap.size + 1 + 1 + 1 + 1 + 1; omega)).trans ((Below.heap_setCell ((((W.setCell ⟨w6.heap.size, 0, none⟩ (.int .i64 7)).setCell ⟨tb2, 1, none⟩ (.int .i64 0)).setCell ⟨w6.heap.size + 1 + 1, 2, none⟩ (.slice (some ⟨W.heap.size, 0, none⟩) 1 1)).setCell ⟨w6.heap.size + 1 + 1 + 1, 0, none⟩ (.slice none 0 0)) ⟨w6.heap.size + 1 + 1 + 1 + 1, 1, none⟩ (.int .i64 10) (bb6) (by show (bb6 : Nat) ≠ w6.heap.size + 1 + 1 + 1 + 1; omega)).trans ((Below.heap_setCell (((W.setCell ⟨w6.heap.size, 0, none⟩ (.int .i64 7)).setCell ⟨tb2, 1, none⟩ (.int .i64 0)).setCell ⟨w6.heap.size + 1 + 1, 2, none⟩ (.slice (some ⟨W.heap.size, 0, none⟩) 1 1)) ⟨w6.heap.size + 1 + 1 + 1, 0, none⟩ (.slice none 0 0) (bb6) (by show (bb6 : Nat) ≠ w6.heap.size + 1 + 1 + 1; omega)).trans ((Below.heap_setCell ((W.setCell ⟨w6.heap.size, 0, none⟩ (.int .i64 7)).setCell ⟨tb2, 1, none⟩ (.int .i64 0)) ⟨w6.heap.size + 1 + 1, 2, none⟩ (.slice (some ⟨W.heap.size, 0, none⟩) 1 1) (bb6) (by show (bb6 : Nat) ≠ w6.heap.size + 1 + 1; omega)).trans ((Below.heap_setCell (W.setCell ⟨w6.heap.size, 0, none⟩ (.int .i64 7)) ⟨tb2, 1, none⟩ (.int .i64 0) (bb6) (by show (bb6 : Nat) ≠ tb2; omega)).trans ((Below.heap_setCell W ⟨w6.heap.size, 0, none⟩ (.int .i64 7) (bb6) (by show (bb6 : Nat) ≠ w6.heap.size; omega)).trans (blk_below Bbb6.out hbW (lt_of_block Bbb6.out)))))))) (.cells #[.int .i64 4] 3))
  have FN : Hid ((((((((W.setCell ⟨w6.heap.size, 0, none⟩ (.int .i64 7)).setCell ⟨tb2, 1, none⟩ (.int .i64 0)).setCell ⟨w6.heap.size + 1 + 1, 2, none⟩ (.slice (some ⟨W.heap.size, 0, none⟩) 1 1)).setCell ⟨w6.heap.size + 1 + 1 + 1, 0, none⟩ (.slice none 0 0)).setCell ⟨w6.heap.size + 1 + 1 + 1 + 1, 1, none⟩ (.int .i64 10)).setCell ⟨w6.heap.size + 1 + 1 + 1 + 1 + 1, 1, none⟩ (.int .i64 3)).alloc (.cells #[.int .i64 4] 3)).heap[W.heap.size]? = some (.cells #[.int .i64 4] 3 (0, 0))) := by
    have h := heap_alloc_new ((((((W.setCell ⟨w6.heap.size, 0, none⟩ (.int .i64 7)).setCell ⟨tb2, 1, none⟩ (.int .i64 0)).setCell ⟨w6.heap.size + 1 + 1, 2, none⟩ (.slice (some ⟨W.heap.size, 0, none⟩) 1 1)).setCell ⟨w6.heap.size + 1 + 1 + 1, 0, none⟩ (.slice none 0 0)).setCell ⟨w6.heap.size + 1 + 1 + 1 + 1, 1, none⟩ (.int .i64 10)).setCell ⟨w6.heap.size + 1 + 1 + 1 + 1 + 1, 1, none⟩ (.int .i64 3)) (.cells #[.int .i64 4] 3)
    show _ = _
    simpa using h
  have FB : Hid (Below w.heap.size w (((((((W.setCell ⟨w6.heap.size, 0, none⟩ (.int .i64 7)).setCell ⟨tb2, 1, none⟩ (.int .i64 0)).setCell ⟨w6.heap.size + 1 + 1, 2, none⟩ (.slice (some ⟨W.heap.size, 0, none⟩) 1 1)).setCell ⟨w6.heap.size + 1 + 1 + 1, 0, none⟩ (.slice none 0 0)).setCell ⟨w6.heap.size + 1 + 1 + 1 + 1, 1, none⟩ (.int .i64 10)).setCell ⟨w6.heap.size + 1 + 1 + 1 + 1 + 1, 1, none⟩ (.int .i64 3)).alloc (.cells #[.int .i64 4] 3))) := (((((((Hb6.out.trans (hbW.mono Hb6.out.size)).setCell (p := ⟨w6.heap.size, 0, none⟩) (by show w.heap.size ≤ w6.heap.size; have := Hb6.out.size; have := Ltb2.out; have := Hb1.out.size; omega) (.int .i64 7)).setCell (p := ⟨tb2, 1, none⟩) (by show w.heap.size ≤ tb2; have := Hb6.out.size; have := Ltb2.out; have := Hb1.out.size; omega) (.int .i64 0)).setCell (p := ⟨w6.heap.size + 1 + 1, 2, none⟩) (by show w.heap.size ≤ w6.heap.size + 1 + 1; have := Hb6.out.size; have := Ltb2.out; have := Hb1.out.size; omega) (.slice (some ⟨W.heap.size, 0, none⟩) 1 1)).setCell (p := ⟨w6.heap.size + 1 + 1 + 1, 0, none⟩) (by show w.heap.size ≤ w6.heap.size + 1 + 1 + 1; have := Hb6.out.size; have := Ltb2.out; have := Hb1.out.size; omega) (.slice none 0 0)).setCell (p := ⟨w6.heap.size + 1 + 1 + 1 + 1, 1, none⟩) (by show w.heap.size ≤ w6.heap.size + 1 + 1 + 1 + 1; have := Hb6.out.size; have := Ltb2.out; have := Hb1.out.size; omega) (.int .i64 10)).setCell (p := ⟨w6.heap.size + 1 + 1 + 1 + 1 + 1, 1, none⟩) (by show w.heap.size ≤ w6.heap.size + 1 + 1 + 1 + 1 + 1; have := Hb6.out.size; have := Ltb2.out; have := Hb1.out.size; omega) (.int .i64 3)).alloc (by have := Hb6.out.size; simp; omega) _
  clear hsW
  go_cut [39] (fun v wx => v = .slice (some ⟨W.heap.size, 0, none⟩) 1 1 ∧ Hid (wx.heap[w6.heap.size]? = some (.cells #[.int .i64 7, .slice (some ⟨tb1, 0, none⟩) 4 4, .slice (some ⟨sb1, 0, none⟩) 1 1] 25 (0, 0)) ∧ wx.heap[w6.heap.size + 1]? = some (.cells #[.int .i64 4, .slice (some ⟨tb2, 0, none⟩) 4 4, .slice (some ⟨sb2, 0, none⟩) 1 1] 25 (0, 0)) ∧ wx.heap[w6.heap.size + 1 + 1]? = some (.cells #[.int .i64 4, .slice (some ⟨tb3, 0, none⟩) 4 4, .slice (some ⟨W.heap.size, 0, none⟩) 1 1] 25 (0, 0)) ∧ wx.heap[w6.heap.size + 1 + 1 + 1]? = some (.cells #[.slice none 0 0, .int .i64 4, .int .i64 12, .slice (some ⟨bb4, 0, none⟩) 1 1, .slice none 0 0, .bool false] 28 (0, 0)) ∧ wx.heap[w6.heap.size + 1 + 1 + 1 + 1]? = some (.cells #[.slice (some ⟨gb5, 0, none⟩) 2 2, .int .i64 10, .int .i64 12, .slice (some ⟨bb5, 0, none⟩) 1 1, .slice none 0 0, .bool false] 28 (0, 0)) ∧ wx.heap[w6.heap.size + 1 + 1 + 1 + 1 + 1]? = some (.cells #[.slice (some ⟨gb6, 0, none⟩) 2 2, .int .i64 3, .int .i64 12, .slice (some ⟨bb6, 0, none⟩) 1 1, .slice none 0 0, .bool false] 28 (0, 0)) ∧ wx.heap[tb2]? = some (.cells #[.int .i64 0, .int .i64 0, .int .i64 10, .int .i64 1, .int .i64 5, .int .i64 1, .int .i64 0, .int .i64 15, .bool false,
    .int .i64 1, .int .i64 2, .int .i64 5, .int .i64 2, .int .i64 5, .int .i64 1, .int .i64 0, .int .i64 15, .bool false,
    .int .i64 0, .int .i64 2, .int .i64 20, .int .i64 1, .int .i64 3, .int .i64 0, .int .i64 0, .int .i64 15, .bool false,
    .int .i64 2, .int .i64 3, .int .i64 4, .int .i64 2, .int .i64 6, .int .i64 0, .int .i64 1, .int .i64 12, .bool true] 31 (0, 0)) ∧ wx.heap[tb1]? = some (.cells #[.int .i64 0, .int .i64 1, .int .i64 10, .int .i64 1, .int .i64 5, .int .i64 1, .int .i64 0, .int .i64 15, .bool false,
    .int .i64 1, .int .i64 2, .int .i64 5, .int .i64 2, .int .i64 5, .int .i64 1, .int .i64 0, .int .i64 15, .bool false,
    .int .i64 0, .int .i64 2, .int .i64 20, .int .i64 1, .int .i64 3, .int .i64 0, .int .i64 0, .int .i64 15, .bool false,
    .int .i64 2, .int .i64 3, .int .i64 4, .int .i64 2, .int .i64 6, .int .i64 0, .int .i64 1, .int .i64 12, .bool true] 31 (0, 0)) ∧ wx.heap[sb1]? = some (.cells #[.int .i64 1] 3 (0, 0)) ∧ wx.heap[sb2]? = some (.cells #[.int .i64 1] 3 (0, 0)) ∧ wx.heap[tb3]? = some (.cells #[.int .i64 0, .int .i64 1, .int .i64 10, .int .i64 1, .int .i64 5, .int .i64 1, .int .i64 0, .int .i64 15, .bool false,
    .int .i64 1, .int .i64 2, .int .i64 5, .int .i64 2, .int .i64 5, .int .i64 1, .int .i64 0, .int .i64 15, .bool false,
    .int .i64 0, .int .i64 2, .int .i64 20, .int .i64 1, .int .i64 3, .int .i64 0, .int .i64 0, .int .i64 15, .bool false,
    .int .i64 2, .int .i64 3, .int .i64 4, .int .i64 2, .int .i64 6, .int .i64 0, .int .i64 1, .int .i64 12, .bool true] 31 (0, 0)) ∧ wx.heap[sb3]? = some (.cells #[.int .i64 1] 3 (0, 0)) ∧ wx.heap[gb4]? = some (.cells #[.int .i64 1, .int .i64 2] 3 (0, 0)) ∧ wx.heap[bb4]? = some (.cells #[.int .i64 1] 3 (0, 0)) ∧ wx.heap[gb5]? = some (.cells #[.int .i64 1, .int .i64 2] 3 (0, 0)) ∧ wx.heap[bb5]? = some (.cells #[.int .i64 1] 3 (0, 0)) ∧ wx.heap[gb6]? = some (.cells #[.int .i64 1, .int .i64 2] 3 (0, 0)) ∧ wx.heap[bb6]? = some (.cells #[.int .i64 1] 3 (0, 0)) ∧ wx.heap[W.heap.size]? = some (.cells #[.int .i64 4] 3 (0, 0)) ∧ Below w.heap.size w wx))
  case first =>
    go_region
    all_goals (clear x1 x2 x3 x4 x5 x6 xt f1 f3 f4 f5 f6 ft ne0 nf0 lt0 ne1 nf1 lt1 ne2 nf2 lt2 ne3 nf3 lt3 ne4 nf4 lt4 ne5 nf5 lt5 ltt hlt6 c1 ca1 d1 da1 c2 ca2 d2 da2 c3 ca3 d3 da3 c4 ca4 d4 da4 c5 ca5 d5 da5; clear m1 m2 m3 m4 m5 m6 ht6; go_wp2_with fail; go_meet; exact ⟨rfl, Fx1.out, Fx2.out, Fx3.out, Fx4.out, Fx5.out, Fx6.out, Ftb2.out, Ftb1.out, Fsb1.out, Fsb2.out, Ftb3.out, Fsb3.out, Fgb4.out, Fbb4.out, Fgb5.out, Fbb5.out, Fgb6.out, Fbb6.out, FN.out, FB.out.drew⟩)
  case rest =>
  clear x1 x2 x3 x4 x5 x6 xt f1 f3 f4 f5 f6 ft ne0 nf0 lt0 ne1 nf1 lt1 ne2 nf2 lt2 ne3 nf3 lt3 ne4 nf4 lt4 ne5 nf5 lt5 ltt hlt6 c1 ca1 d1 da1 c2 ca2 d2 da2 c3 ca3 d3 da3 c4 ca4 d4 da4 c5 ca5 d5 da5; clear m1 m2 m3 m4 m5 m6 ht6
  clear Fx1 Fx2 Fx3 Fx4 Fx5 Fx6 Ftb2 Ftb1 Fsb1 Fsb2 Ftb3 Fsb3 Fgb4 Fbb4 Fgb5 Fbb5 Fgb6 Fbb6 FN FB
  obtain ⟨rfl, hK⟩ := hcut
  obtain ⟨F1, F2, F3, F4, F5, F6, Ftb2, Ftb1, Fsb1, Fsb2, Ftb3, Fsb3, Fgb4, Fbb4, Fgb5, Fbb5, Fgb6, Fbb6, FN, FB⟩ := hK.out
  clear hK
  have HN1 := Lib.hid (show NReads wc wc.heap.size stopsN (some ⟨tb1, 0, none⟩) (some ⟨sb1, 0, none⟩) 4 1 from ⟨trks_blk Ftb1 (lt_of_block Ftb1) netN_cells, ints_blk (xs := [1]) Fsb1 (lt_of_block Fsb1), by decide, by decide⟩)
  have HN2 := Lib.hid (show NReads wc wc.heap.size loopN (some ⟨tb2, 0, none⟩) (some ⟨sb2, 0, none⟩) 4 1 from ⟨trks_blk Ftb2 (lt_of_block Ftb2) loopN_cells, ints_blk (xs := [1]) Fsb2 (lt_of_block Fsb2), by decide, by decide⟩)
  have HN3 := Lib.hid (show NReads wc wc.heap.size shopN (some ⟨tb3, 0, none⟩) (some ⟨W.heap.size, 0, none⟩) 4 1 from ⟨trks_blk Ftb3 (lt_of_block Ftb3) netN_cells, ints_blk (xs := [4]) FN (lt_of_block FN), by decide, by decide⟩)
  have HC4 := Lib.hid (show CReads wc wc.heap.size bareK none (some ⟨bb4, 0, none⟩) none 0 1 0 from ⟨Ints.nil _ _ _, ints_blk (xs := [1]) Fbb4 (lt_of_block Fbb4), Ints.nil _ _ _, by decide, by decide, by decide⟩)
  have HC5 := Lib.hid (show CReads wc wc.heap.size wideK (some ⟨gb5, 0, none⟩) (some ⟨bb5, 0, none⟩) none 2 1 0 from ⟨ints_blk (xs := [1, 2]) Fgb5 (lt_of_block Fgb5), ints_blk (xs := [1]) Fbb5 (lt_of_block Fbb5), Ints.nil _ _ _, by decide, by decide, by decide⟩)
  have HC6 := Lib.hid (show CReads wc wc.heap.size slimK (some ⟨gb6, 0, none⟩) (some ⟨bb6, 0, none⟩) none 2 1 0 from ⟨ints_blk (xs := [1, 2]) Fgb6 (lt_of_block Fgb6), ints_blk (xs := [1]) Fbb6 (lt_of_block Fbb6), Ints.nil _ _ _, by decide, by decide, by decide⟩)
  have X1 := Lib.hid F1; have X2 := Lib.hid F2; have X3 := Lib.hid F3; have X4 := Lib.hid F4; have X5 := Lib.hid F5; have X6 := Lib.hid F6
  have HB := Lib.hid FB
  have HX := Lib.hid (Below.refl wc.heap.size wc)
  clear F1 F2 F3 F4 F5 F6 Ftb2 Ftb1 Fsb1 Fsb2 Ftb3 Fsb3 Fgb4 Fbb4 Fgb5 Fbb5 Fgb6 Fbb6 FN FB
  clear Btb1 Ltb1 Utb1 Bsb1 Lsb1 Usb1 Btb2 Ltb2 Utb2 Bsb2 Lsb2 Usb2 Btb3 Ltb3 Utb3 Bsb3 Lsb3 Usb3 Bgb4 Lgb4 Ugb4 Bbb4 Lbb4 Ubb4 Bgb5 Lgb5 Ugb5 Bbb5 Lbb5 Ubb5 Bgb6 Lgb6 Ugb6 Bbb6 Lbb6 Ubb6 N2 HS2 HS3 HS4 HS5 HS6 Hb1 Hb6 hbW
  go_wp2_with fail
  refine (rolling_any _).mono ?_
  rintro e w21n ⟨rfl, hb⟩
  replace HN1 := Lib.hid ((HN1.out.below hb).more hb.size)
  replace HN2 := Lib.hid ((HN2.out.below hb).more hb.size)
  replace HN3 := Lib.hid ((HN3.out.below hb).more hb.size)
  replace HC4 := Lib.hid ((HC4.out.below hb).more hb.size)
  replace HC5 := Lib.hid ((HC5.out.below hb).more hb.size)
  replace HC6 := Lib.hid ((HC6.out.below hb).more hb.size)
  replace HB := Lib.hid (HB.out.trans (hb.mono HB.out.size))
  replace HX := Lib.hid (HX.out.trans (hb.mono HX.out.size))
  clear hb
  go_wp2_with fail
  refine (net_any _).mono ?_
  rintro e w22n ⟨tA22, sA22, tc22, sc22, rfl, hn, hb⟩
  replace HN1 := Lib.hid ((HN1.out.below hb).more hb.size)
  replace HN2 := Lib.hid ((HN2.out.below hb).more hb.size)
  replace HN3 := Lib.hid ((HN3.out.below hb).more hb.size)
  replace HC4 := Lib.hid ((HC4.out.below hb).more hb.size)
  replace HC5 := Lib.hid ((HC5.out.below hb).more hb.size)
  replace HC6 := Lib.hid ((HC6.out.below hb).more hb.size)
  replace HB := Lib.hid (HB.out.trans (hb.mono HB.out.size))
  replace HX := Lib.hid (HX.out.trans (hb.mono HX.out.size))
  have HN22 := Lib.hid hn
  clear hn hb
  go_wp2_with fail
  refine (kc_net tA22 sA22 tc22 sc22 _ HN22.out).mono ?_
  rintro e w23n ⟨rfl, hb⟩
  replace HN1 := Lib.hid ((HN1.out.below hb).more hb.size)
  replace HN2 := Lib.hid ((HN2.out.below hb).more hb.size)
  replace HN3 := Lib.hid ((HN3.out.below hb).more hb.size)
  replace HC4 := Lib.hid ((HC4.out.below hb).more hb.size)
  replace HC5 := Lib.hid ((HC5.out.below hb).more hb.size)
  replace HC6 := Lib.hid ((HC6.out.below hb).more hb.size)
  replace HB := Lib.hid (HB.out.trans (hb.mono HB.out.size))
  replace HX := Lib.hid (HX.out.trans (hb.mono HX.out.size))
  replace HN22 := Lib.hid ((HN22.out.below hb).more hb.size)
  clear hb
  clear HN22
  have g0 := blk_cell (blk_below X1.out HX.out (lt_of_block X1.out)) 0
  have g1 := blk_cell (blk_below X1.out HX.out (lt_of_block X1.out)) 1
  have g2 := blk_cell (blk_below X1.out HX.out (lt_of_block X1.out)) 2
  simp only [List.getElem?_toArray, List.getElem?_cons_zero, List.getElem?_cons_succ] at g0 g1 g2
  go_wp2_with fail
  refine (kc_stops (some ⟨tb1, 0, none⟩) (some ⟨sb1, 0, none⟩) 4 1 _ HN1.out).mono ?_
  rintro e w24n ⟨rfl, hb⟩
  replace HN1 := Lib.hid ((HN1.out.below hb).more hb.size)
  replace HN2 := Lib.hid ((HN2.out.below hb).more hb.size)
  replace HN3 := Lib.hid ((HN3.out.below hb).more hb.size)
  replace HC4 := Lib.hid ((HC4.out.below hb).more hb.size)
  replace HC5 := Lib.hid ((HC5.out.below hb).more hb.size)
  replace HC6 := Lib.hid ((HC6.out.below hb).more hb.size)
  replace HB := Lib.hid (HB.out.trans (hb.mono HB.out.size))
  replace HX := Lib.hid (HX.out.trans (hb.mono HX.out.size))
  clear hb
  clear HN1
  clear g0 g1 g2
  clear X1
  have g0 := blk_cell (blk_below X2.out HX.out (lt_of_block X2.out)) 0
  have g1 := blk_cell (blk_below X2.out HX.out (lt_of_block X2.out)) 1
  have g2 := blk_cell (blk_below X2.out HX.out (lt_of_block X2.out)) 2
  simp only [List.getElem?_toArray, List.getElem?_cons_zero, List.getElem?_cons_succ] at g0 g1 g2
  go_wp2_with fail
  refine (kc_loop (some ⟨tb2, 0, none⟩) (some ⟨sb2, 0, none⟩) 4 1 _ HN2.out).mono ?_
  rintro e w25n ⟨rfl, hb⟩
  replace HN2 := Lib.hid ((HN2.out.below hb).more hb.size)
  replace HN3 := Lib.hid ((HN3.out.below hb).more hb.size)
  replace HC4 := Lib.hid ((HC4.out.below hb).more hb.size)
  replace HC5 := Lib.hid ((HC5.out.below hb).more hb.size)
  replace HC6 := Lib.hid ((HC6.out.below hb).more hb.size)
  replace HB := Lib.hid (HB.out.trans (hb.mono HB.out.size))
  replace HX := Lib.hid (HX.out.trans (hb.mono HX.out.size))
  clear hb
  clear HN2
  clear g0 g1 g2
  clear X2
  have g0 := blk_cell (blk_below X3.out HX.out (lt_of_block X3.out)) 0
  have g1 := blk_cell (blk_below X3.out HX.out (lt_of_block X3.out)) 1
  have g2 := blk_cell (blk_below X3.out HX.out (lt_of_block X3.out)) 2
  simp only [List.getElem?_toArray, List.getElem?_cons_zero, List.getElem?_cons_succ] at g0 g1 g2
  go_wp2_with fail
  refine (kc_shop (some ⟨tb3, 0, none⟩) (some ⟨W.heap.size, 0, none⟩) 4 1 _ HN3.out).mono ?_
  rintro e w26n ⟨rfl, hb⟩
  replace HN3 := Lib.hid ((HN3.out.below hb).more hb.size)
  replace HC4 := Lib.hid ((HC4.out.below hb).more hb.size)
  replace HC5 := Lib.hid ((HC5.out.below hb).more hb.size)
  replace HC6 := Lib.hid ((HC6.out.below hb).more hb.size)
  replace HB := Lib.hid (HB.out.trans (hb.mono HB.out.size))
  replace HX := Lib.hid (HX.out.trans (hb.mono HX.out.size))
  clear hb
  clear HN3
  clear g0 g1 g2
  clear X3
  go_wp2_with fail
  refine (car_any _).mono ?_
  rintro e w27n ⟨gA27, bA27, hA27, gc27, bc27, hc27, rfl, hn, hb⟩
  replace HC4 := Lib.hid ((HC4.out.below hb).more hb.size)
  replace HC5 := Lib.hid ((HC5.out.below hb).more hb.size)
  replace HC6 := Lib.hid ((HC6.out.below hb).more hb.size)
  replace HB := Lib.hid (HB.out.trans (hb.mono HB.out.size))
  replace HX := Lib.hid (HX.out.trans (hb.mono HX.out.size))
  have HC27 := Lib.hid hn
  clear hn hb
  go_wp2_with fail
  refine (kf_car gA27 bA27 hA27 gc27 bc27 hc27 _ HC27.out).mono ?_
  rintro e w28n ⟨rfl, hb⟩
  replace HC4 := Lib.hid ((HC4.out.below hb).more hb.size)
  replace HC5 := Lib.hid ((HC5.out.below hb).more hb.size)
  replace HC6 := Lib.hid ((HC6.out.below hb).more hb.size)
  replace HB := Lib.hid (HB.out.trans (hb.mono HB.out.size))
  replace HX := Lib.hid (HX.out.trans (hb.mono HX.out.size))
  replace HC27 := Lib.hid ((HC27.out.below hb).more hb.size)
  clear hb
  clear HC27
  have g0 := blk_cell (blk_below X4.out HX.out (lt_of_block X4.out)) 0
  have g1 := blk_cell (blk_below X4.out HX.out (lt_of_block X4.out)) 1
  have g2 := blk_cell (blk_below X4.out HX.out (lt_of_block X4.out)) 2
  have g3 := blk_cell (blk_below X4.out HX.out (lt_of_block X4.out)) 3
  have g4 := blk_cell (blk_below X4.out HX.out (lt_of_block X4.out)) 4
  have g5 := blk_cell (blk_below X4.out HX.out (lt_of_block X4.out)) 5
  simp only [List.getElem?_toArray, List.getElem?_cons_zero, List.getElem?_cons_succ] at g0 g1 g2 g3 g4 g5
  go_wp2_with fail
  refine (kf_bare none (some ⟨bb4, 0, none⟩) none 0 1 0 _ HC4.out).mono ?_
  rintro e w29n ⟨rfl, hb⟩
  replace HC4 := Lib.hid ((HC4.out.below hb).more hb.size)
  replace HC5 := Lib.hid ((HC5.out.below hb).more hb.size)
  replace HC6 := Lib.hid ((HC6.out.below hb).more hb.size)
  replace HB := Lib.hid (HB.out.trans (hb.mono HB.out.size))
  replace HX := Lib.hid (HX.out.trans (hb.mono HX.out.size))
  clear hb
  clear HC4
  clear g0 g1 g2 g3 g4 g5
  clear X4
  have g0 := blk_cell (blk_below X5.out HX.out (lt_of_block X5.out)) 0
  have g1 := blk_cell (blk_below X5.out HX.out (lt_of_block X5.out)) 1
  have g2 := blk_cell (blk_below X5.out HX.out (lt_of_block X5.out)) 2
  have g3 := blk_cell (blk_below X5.out HX.out (lt_of_block X5.out)) 3
  have g4 := blk_cell (blk_below X5.out HX.out (lt_of_block X5.out)) 4
  have g5 := blk_cell (blk_below X5.out HX.out (lt_of_block X5.out)) 5
  simp only [List.getElem?_toArray, List.getElem?_cons_zero, List.getElem?_cons_succ] at g0 g1 g2 g3 g4 g5
  go_wp2_with fail
  refine (kf_wide (some ⟨gb5, 0, none⟩) (some ⟨bb5, 0, none⟩) none 2 1 0 _ HC5.out).mono ?_
  rintro e w30n ⟨rfl, hb⟩
  replace HC5 := Lib.hid ((HC5.out.below hb).more hb.size)
  replace HC6 := Lib.hid ((HC6.out.below hb).more hb.size)
  replace HB := Lib.hid (HB.out.trans (hb.mono HB.out.size))
  replace HX := Lib.hid (HX.out.trans (hb.mono HX.out.size))
  clear hb
  clear HC5
  clear g0 g1 g2 g3 g4 g5
  clear X5
  go_upto_if 83 with fail
  refine wp_cond_false ?_ (wp_skip ?_)
  · simp [Act.eval]
  · refine (show ∀ (a : Act) (w1 : World), Code.wp Tryz.prog (behind 4 kbody) (KQ w) a w1 → _ from by assumption) _ _ ?_
    exact known2 w (w6.heap.size + 1 + 1 + 1 + 1 + 1) gb6 bb6 _ HB (Lib.hid (blk_below X6.out HX.out (lt_of_block X6.out))) HC6
end Go.Proofs.YtpbjpochjagicaaGreatDoorRR
