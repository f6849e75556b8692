/- Walks: what a car has not, one by one. Walks: Lacks. -/
import Derived.RangeFuncNested
import Derived.RangeFuncBound
import Derived.RangeFuncCalls
import Derived.RangeFuncLeaves
import Derived.RangeFuncBox
import Derived.Shelf.Abstract
import Derived.Shelf.RegionOpen
import Derived.OwnWalkIn
import Derived.TacticsInMore
import Derived.LoopNIn
import Derived.LoopIn
import Derived.Test.YtpbjpochjagicaaGreatW14
import Derived.Test.YtpbjpochjagicaaGreatW23
import Derived.Maps.AppendAt
namespace Go.Proofs.YtpbjpochjagicaaGreat
open Go.RowKit Go.Shelf
attribute [local go_sem] Oper.semAt_some

/-- What lay below n0 and the boxes of coaches and kinds are as they were. -/
def KpM (n0 : Nat) (W W' : World) : Prop := Below n0 W W' ∧ ∀ (k : Nat) (cs : Array Value) (t : TypeId) (m : Nat × Nat), (t = 27 ∨ t = 125) → W.heap[k]? = some (Obj.cells cs t m) → W'.heap[k]? = some (Obj.cells cs t m)
theorem KpM.refl (n0 : Nat) (W : World) : KpM n0 W W := ⟨Below.refl _ _, fun _ _ _ _ _ h => h⟩
theorem KpM.trans {n0 : Nat} {A B C : World} (h : KpM n0 A B) (h' : KpM n0 B C) : KpM n0 A C := ⟨h.1.trans h'.1, fun k cs t m ht hk => h'.2 k cs t m ht (h.2 k cs t m ht hk)⟩
theorem KpM.alloc {n0 : Nat} (W : World) (o : Obj) (hn : n0 ≤ W.heap.size) : KpM n0 W (W.alloc o) := ⟨(Below.refl _ _).alloc hn _, fun _ _ _ _ _ h => blk_alloc h _⟩

/-- The first m of 1, 2, .. that are not in the list, told from a base on. -/
def upTo (has : List Int) (base : Int) (m : Nat) : List Int := ((List.range m).filter fun k : Nat => decide ((k : Int) + 1 ∉ has)).map fun k : Nat => base + ((k : Int) + 1)
theorem upTo_in {has : List Int} {base : Int} {m : Nat} (h : (m : Int) + 1 ∈ has) : upTo has base (m + 1) = upTo has base m := by
  simp [upTo, List.range_succ, h]
theorem upTo_out {has : List Int} {base : Int} {m : Nat} (h : (m : Int) + 1 ∉ has) : upTo has base (m + 1) = upTo has base m ++ [base + ((m : Int) + 1)] := by
  simp [upTo, List.range_succ, h]
theorem upTo_length (has : List Int) (base : Int) (m : Nat) : (upTo has base m).length ≤ m := by
  simp only [upTo, List.length_map]
  exact Nat.le_trans (List.length_filter_le _ _) (by simp)
def missPre (c : Pl.Cch) : Nat → List Int
  | 0 => []
  | 1 => upTo c.gauges 0 3
  | 2 => upTo c.gauges 0 3 ++ upTo c.brakes 10 3
  | _ => upTo c.gauges 0 3 ++ upTo c.brakes 10 3 ++ upTo c.heats 20 3
theorem upTo3 (has : List Int) (base : Int) : upTo has base 3 = ([1, 2, 3].filter fun n => decide (n ∉ has)).map (base + ·) := by
  by_cases h1 : (1 : Int) ∈ has <;> by_cases h2 : (2 : Int) ∈ has <;> by_cases h3 : (3 : Int) ∈ has <;> simp [upTo, List.range_succ, h1, h2, h3]
theorem missPre_all (c : Pl.Cch) : Pl.missing c = missPre c 3 ++ if c.hooks then [] else [30] := by
  simp only [Pl.missing, missPre, upTo3]
  congr 2
  simp
theorem missPre_length (c : Pl.Cch) (i : Nat) (hi : i ≤ 3) : (missPre c i).length ≤ 3 * i := by
  have h1 := upTo_length c.gauges 0 3; have h2 := upTo_length c.brakes 10 3; have h3 := upTo_length c.heats 20 3
  have : i = 0 ∨ i = 1 ∨ i = 2 ∨ i = 3 := by omega
  rcases this with rfl | rfl | rfl | rfl <;> simp [missPre] <;> omega

set_option maxHeartbeats 400000 in
theorem missing_any (c : Pl.Cch) (c_gA c_bA c_hA : Option Addr) (c_gc c_bc c_hc : Nat) (w : World) : Calls Tryz.prog 38 #[.agg #[.slice c_gA c.gauges.length c_gc, .int .i64 c.size, .int .i64 c.load, .slice c_bA c.brakes.length c_bc, .slice c_hA c.heats.length c_hc, .bool c.hooks]] w fun e w' => e = .returned (.func (.func 76) #[] #[.pointer (some ⟨w.heap.size, 0, none⟩)]) ∧ w.alloc (.cells #[.slice c_gA c.gauges.length c_gc, .int .i64 c.size, .int .i64 c.load, .slice c_bA c.brakes.length c_bc, .slice c_hA c.heats.length c_hc, .bool c.hooks] 27) = w' := by
  go_enter Tryz.func38, Tryz.ntmps38
  go_wp2_with fail
  go_ret
  exact ⟨rfl, rfl⟩

set_option maxRecDepth 100000 in
set_option maxHeartbeats 4000000 in
theorem miss_in (F : Fence) (n : Nat) (h105 : F.fn 76) (h92 : F.fn 55) (hro : F.round = none) (hn1 : 1 ≤ n)
    (hcon : ∀ (A : Option Addr) (cp : Nat) (xs : List Int) (x : Int) (B : Nat) (w : World), Ints w B A xs → xs.length ≤ 9223372036854775807 → CallsIn F (n - 1) Tryz.prog 55 #[.slice A xs.length cp, .int .i64 x] w fun e w' => e = .returned (.bool (decide (x ∈ xs))) ∧ w = w')
    (l B n0 : Nat) (c : Pl.Cch) (c_gA c_bA c_hA : Option Addr) (c_gc c_bc c_hc : Nat) (J Jx : List Int → World → Prop) (hJa : ∀ s W o, J s W → J s (W.alloc o))
    (hY : ∀ pre x W, J pre W → pre.length < 10 → YieldAt F (n - 1) Tryz.prog l #[.int .i64 x] W fun e W' =>
      (e = .returned (.bool true) ∧ J (pre ++ [x]) W' ∧ KpM n0 W W') ∨ (e = .returned (.bool false) ∧ Jx (pre ++ [x]) W'))
    (W : World) (hbox : W.heap[B]? = some (.cells #[.slice c_gA c.gauges.length c_gc, .int .i64 c.size, .int .i64 c.load, .slice c_bA c.brakes.length c_bc, .slice c_hA c.heats.length c_hc, .bool c.hooks] 27 (0, 0))) (hn0 : n0 ≤ W.heap.size) (hr : CReads W n0 c c_gA c_bA c_hA c_gc c_bc c_hc) (h0 : J [] W) :
    CallsIn F n Tryz.prog 76 #[.func (.yield l) #[] #[], .pointer (some ⟨B, 0, none⟩)] W fun e W' => (∃ v, e = .returned v) ∧
      ((∃ ys, ys = Pl.missing c ∧ J ys W') ∨ (∃ pre, True ∧ Jx pre W')) := by
  obtain ⟨x0, x1, x2, x3, x4, x5⟩ := box_cells c _ _ _ _ _ _ hbox
  have HCon := Lib.hid hcon; clear hcon
  have HY := Lib.hid hY; have HJa := Lib.hid hJa; have Hr := Lib.hid hr
  clear hY hJa hr
  refine callsIn_of_wp Tryz.func76 rfl h105 ?_ hro
  simp only [Tryz.ntmps76, List.size_toArray, List.length_cons, List.length_nil, Nat.reduceAdd, Nat.reduceSub, Array.replicate_succ, Array.replicate_zero, List.push_toArray, List.append_toArray, List.nil_append, List.cons_append]
  gi_wp2_with fail
  have hK : (W.alloc (.cells #[.int .i64 0, .int .i64 3, .slice c_gA c.gauges.length c_gc, .int .i64 10, .int .i64 3, .slice c_bA c.brakes.length c_bc, .int .i64 20, .int .i64 3, .slice c_hA c.heats.length c_hc] 125)).heap[W.heap.size]? = some (.cells #[.int .i64 0, .int .i64 3, .slice c_gA c.gauges.length c_gc, .int .i64 10, .int .i64 3, .slice c_bA c.brakes.length c_bc, .int .i64 20, .int .i64 3, .slice c_hA c.heats.length c_hc] 125 (0, 0)) := heap_alloc_new W _
  have hJ0 := HJa.out _ _ (.cells #[.int .i64 0, .int .i64 3, .slice c_gA c.gauges.length c_gc, .int .i64 10, .int .i64 3, .slice c_bA c.brakes.length c_bc, .int .i64 20, .int .i64 3, .slice c_hA c.heats.length c_hc] 125) h0
  have hB0 := blk_alloc hbox (.cells #[.int .i64 0, .int .i64 3, .slice c_gA c.gauges.length c_gc, .int .i64 10, .int .i64 3, .slice c_bA c.brakes.length c_bc, .int .i64 20, .int .i64 3, .slice c_hA c.heats.length c_hc] 125)
  have hR0 := Hr.out.below ((Below.refl n0 W).alloc hn0 (.cells #[.int .i64 0, .int .i64 3, .slice c_gA c.gauges.length c_gc, .int .i64 10, .int .i64 3, .slice c_bA c.brakes.length c_bc, .int .i64 20, .int .i64 3, .slice c_hA c.heats.length c_hc] 125))
  gi_loopw [5, 6, 19] (fun u5 u6 i wr => ∃ k : Nat, k ≤ 3 ∧ i = .int .i64 k ∧ J (missPre c k) wr ∧ wr.heap[B]? = some (.cells #[.slice c_gA c.gauges.length c_gc, .int .i64 c.size, .int .i64 c.load, .slice c_bA c.brakes.length c_bc, .slice c_hA c.heats.length c_hc, .bool c.hooks] 27 (0, 0)) ∧
      wr.heap[W.heap.size]? = some (.cells #[.int .i64 0, .int .i64 3, .slice c_gA c.gauges.length c_gc, .int .i64 10, .int .i64 3, .slice c_bA c.brakes.length c_bc, .int .i64 20, .int .i64 3, .slice c_hA c.heats.length c_hc] 125 (0, 0)) ∧ CReads wr n0 c c_gA c_bA c_hA c_gc c_bc c_hc ∧ n0 ≤ wr.heap.size)
    (fun _ _ i _ => 3 - (intOf i).toNat)
  case atStart => exact ⟨0, by omega, rfl, hJ0, hB0, hK, hR0, by simp; omega⟩
  case round =>
    obtain ⟨k, hk, rfl, hJ, hB, hKi, hR, hn⟩ := hrel
    clear hK hJ0 hB0 hR0 h0 hbox x0 x1 x2 x3 x4 x5
    by_cases hlt : k < 3
    · obtain ⟨bs, A, has, cp, hb0, hb1, hpre, hlen, hI, hcells⟩ : ∃ (bs : Int) (A : Option Addr) (has : List Int) (cp : Nat), 0 ≤ bs ∧ bs ≤ 20 ∧ missPre c (k + 1) = missPre c k ++ upTo has bs 3 ∧ has.length ≤ 140737488355328 ∧ Ints wr n0 A has ∧
          wr.cell? ⟨W.heap.size, k * 3, none⟩ = some (.int .i64 bs) ∧ wr.cell? ⟨W.heap.size, k * 3 + 1, none⟩ = some (.int .i64 3) ∧ wr.cell? ⟨W.heap.size, k * 3 + 2, none⟩ = some (.slice A has.length cp) := by
        have h3 : k = 0 ∨ k = 1 ∨ k = 2 := by omega
        rcases h3 with rfl | rfl | rfl
        · exact ⟨0, c_gA, c.gauges, c_gc, by omega, by omega, rfl, hR.lenG, hR.gauges, blk_cell hKi 0, blk_cell hKi 1, blk_cell hKi 2⟩
        · exact ⟨10, c_bA, c.brakes, c_bc, by omega, by omega, rfl, hR.lenB, hR.brakes, blk_cell hKi 3, blk_cell hKi 4, blk_cell hKi 5⟩
        · exact ⟨20, c_hA, c.heats, c_hc, by omega, by omega, rfl, hR.lenH, hR.heats, blk_cell hKi 6, blk_cell hKi 7, blk_cell hKi 8⟩
      obtain ⟨hc0, hc1, hc2⟩ := hcells
      have hki : (k : Int) < 3 := by omega
      have hPl := missPre_length c k (by omega)
      have hJ2 := HJa.out _ _ (.cells #[.int .i64 bs, .int .i64 3, .slice A has.length cp] 125) hJ
      have hT2 : (wr.alloc (.cells #[.int .i64 bs, .int .i64 3, .slice A has.length cp] 125)).heap[wr.heap.size]? = some (.cells #[.int .i64 bs, .int .i64 3, .slice A has.length cp] 125 (0, 0)) := heap_alloc_new wr _
      have hB2 := blk_alloc hB (.cells #[.int .i64 bs, .int .i64 3, .slice A has.length cp] 125)
      have hK2 := blk_alloc hKi (.cells #[.int .i64 bs, .int .i64 3, .slice A has.length cp] 125)
      have hbA := (Below.refl n0 wr).alloc hn (.cells #[.int .i64 bs, .int .i64 3, .slice A has.length cp] 125)
      have hR2 := hR.below hbA
      have hI2 := hI.below hbA
      have Hpre := Lib.hid hpre
      clear hpre hB hKi hR hI hbA hJ
      obtain ⟨wo, rfl⟩ : ∃ wo : World, wo = wr := ⟨_, rfl⟩
      gi_wp2_with fail
      have hJ3 : J (missPre c k ++ upTo has bs 0) (wo.alloc (.cells #[.int .i64 bs, .int .i64 3, .slice A has.length cp] 125)) := by simpa [upTo] using hJ2
      clear hJ2
      gi_loopw [6] (fun u6 wj => ∃ m : Nat, m ≤ 3 ∧ u6 = .int .i64 ((m : Int) + 1) ∧ J (missPre c k ++ upTo has bs m) wj ∧ wj.heap[B]? = some (.cells #[.slice c_gA c.gauges.length c_gc, .int .i64 c.size, .int .i64 c.load, .slice c_bA c.brakes.length c_bc, .slice c_hA c.heats.length c_hc, .bool c.hooks] 27 (0, 0)) ∧
          wj.heap[W.heap.size]? = some (.cells #[.int .i64 0, .int .i64 3, .slice c_gA c.gauges.length c_gc, .int .i64 10, .int .i64 3, .slice c_bA c.brakes.length c_bc, .int .i64 20, .int .i64 3, .slice c_hA c.heats.length c_hc] 125 (0, 0)) ∧
          wj.heap[wo.heap.size]? = some (.cells #[.int .i64 bs, .int .i64 3, .slice A has.length cp] 125 (0, 0)) ∧ CReads wj n0 c c_gA c_bA c_hA c_gc c_bc c_hc ∧ Ints wj n0 A has ∧ n0 ≤ wj.heap.size)
        (fun u6 _ => 4 - (intOf u6).toNat)
      case atStart => exact ⟨0, by omega, rfl, hJ3, hB2, hK2, hT2, hR2, hI2, by simp; omega⟩
      case round =>
        obtain ⟨m, hm, rfl, hJ, hB, hKi, hT, hR, hI, hn⟩ := hrel
        clear hJ3 hB2 hK2 hT2 hR2 hI2
        have y0 : wr.cell? ⟨wo.heap.size, 0, none⟩ = some (.int .i64 bs) := blk_cell hT 0
        have y1 : wr.cell? ⟨wo.heap.size, 1, none⟩ = some (.int .i64 3) := blk_cell hT 1
        have y2 : wr.cell? ⟨wo.heap.size, 2, none⟩ = some (.slice A has.length cp) := blk_cell hT 2
        by_cases hm3 : m < 3
        · have hle : (m : Int) + 1 ≤ 3 := by omega
          have hUl := upTo_length has bs m
          have hCon := HCon.out A cp has ((m : Int) + 1) n0 wr hI (by omega)
          by_cases hin : (m : Int) + 1 ∈ has
          · rw [decide_eq_true hin] at hCon
            have hN : Hid (upTo has bs (m + 1) = upTo has bs m) := upTo_in hin
            have HC := Lib.hid hCon
            have Hst := Lib.hid (And.intro hB (And.intro hKi (And.intro hT (And.intro hR hI))))
            clear hin hCon hB hKi hT hR hI
            gi_wp2_with (gi_at_call 55; refine HC.out.mono ?_; rintro e w1 ⟨rfl, rfl⟩)
            refine ⟨(fun _ h => (by cases h)), ?_⟩
            gi_wp2_with fail
            go_roundw
            case rel =>
              obtain ⟨s1, s2, s3, s4, s5⟩ := Hst.out
              exact ⟨m + 1, by omega, by go_num, by rw [hN.out]; exact hJ, s1, s2, s3, s4, s5, hn⟩
            case measure => simp [intOf]; omega
          · rw [decide_eq_false hin] at hCon
            have hN : Hid (upTo has bs (m + 1) = upTo has bs m ++ [bs + ((m : Int) + 1)]) := upTo_out hin
            have HC := Lib.hid hCon
            have hKp : ∀ W', KpM n0 wr W' → W'.heap[B]? = some (.cells #[.slice c_gA c.gauges.length c_gc, .int .i64 c.size, .int .i64 c.load, .slice c_bA c.brakes.length c_bc, .slice c_hA c.heats.length c_hc, .bool c.hooks] 27 (0, 0)) ∧
                W'.heap[W.heap.size]? = some (.cells #[.int .i64 0, .int .i64 3, .slice c_gA c.gauges.length c_gc, .int .i64 10, .int .i64 3, .slice c_bA c.brakes.length c_bc, .int .i64 20, .int .i64 3, .slice c_hA c.heats.length c_hc] 125 (0, 0)) ∧
                W'.heap[wo.heap.size]? = some (.cells #[.int .i64 bs, .int .i64 3, .slice A has.length cp] 125 (0, 0)) ∧ CReads W' n0 c c_gA c_bA c_hA c_gc c_bc c_hc ∧ Ints W' n0 A has ∧ n0 ≤ W'.heap.size :=
              fun W' hk => ⟨hk.2 _ _ _ _ (.inl rfl) hB, hk.2 _ _ _ _ (.inr rfl) hKi, hk.2 _ _ _ _ (.inr rfl) hT, hR.below hk.1, hI.below hk.1, Nat.le_trans hn hk.1.size⟩
            have HKp := Lib.hid hKp
            obtain ⟨fn, tmps, assign, body, hy, hRd⟩ := HY.out _ (bs + ((m : Int) + 1)) wr hJ (by simp; omega)
            clear hin hCon hB hKi hT hR hI hKp
            gi_wp2_with (gi_at_call 55; refine HC.out.mono ?_; rintro e w1 ⟨rfl, rfl⟩)
            refine hRd.mono ?_
            rintro e W3 (⟨rfl, hJ3, hk3⟩ | ⟨rfl, hJx3⟩)
            · have Hk3 := Lib.hid hk3
              clear hk3
              gi_wp2_with fail
              go_roundw
              case rel =>
                obtain ⟨s1, s2, s3, s4, s5, s6⟩ := HKp.out _ Hk3.out
                exact ⟨m + 1, by omega, by go_num, by rw [hN.out, ← List.append_assoc]; exact hJ3, s1, s2, s3, s4, s5, s6⟩
              case measure => simp [intOf]; omega
            · gi_wp2_with fail
              refine bodyPost_ret (results_none rfl _ _ _) rfl ?_
              exact ⟨⟨_, rfl⟩, .inr ⟨_, trivial, hJx3⟩⟩
        · obtain rfl : m = 3 := by omega
          gi_wp2_with fail
          go_roundw
          case rel => exact ⟨k + 1, by omega, by go_num, by rw [Hpre.out]; exact hJ, hB, hKi, hR, hn⟩
          case measure => simp [intOf]; omega
    · obtain rfl : k = 3 := by omega
      have x5 : wr.cell? ⟨B, 5, none⟩ = some (.bool c.hooks) := blk_cell hB 5
      cases hh : c.hooks
      · rw [hh] at x5
        have hM : Hid (Pl.missing c = missPre c 3 ++ [30]) := by show _ = _; rw [missPre_all, hh]; simp
        have hPl := missPre_length c 3 (by omega)
        obtain ⟨fn, tmps, assign, body, hy, hRd⟩ := HY.out _ 30 wr hJ (by omega)
        clear hh hB hKi hR
        gi_wp2_with fail
        refine hRd.mono ?_
        rintro e W3 (⟨rfl, hJ3, hk3⟩ | ⟨rfl, hJx3⟩)
        · gi_wp2_with fail
          go_end0
          exact ⟨⟨_, rfl⟩, .inl ⟨_, hM.out.symm, hJ3⟩⟩
        · gi_wp2_with fail
          go_end0
          exact ⟨⟨_, rfl⟩, .inr ⟨_, trivial, hJx3⟩⟩
      · rw [hh] at x5
        have hM : Hid (Pl.missing c = missPre c 3) := by show _ = _; rw [missPre_all, hh]; simp
        clear hh hB hKi hR
        gi_wp2_with fail
        go_end0
        exact ⟨⟨_, rfl⟩, .inl ⟨_, hM.out.symm, hJ⟩⟩

/-- missing hands back a value that tells all that the car has not. -/
theorem miss_stops (F : Fence) (n : Nat) (h105 : F.fn 76) (h92 : F.fn 55) (hro : F.round = none) (hn1 : 1 ≤ n)
    (hcon : ∀ (A : Option Addr) (cp : Nat) (xs : List Int) (x : Int) (B : Nat) (w : World), Ints w B A xs → xs.length ≤ 9223372036854775807 → CallsIn F (n - 1) Tryz.prog 55 #[.slice A xs.length cp, .int .i64 x] w fun e w' => e = .returned (.bool (decide (x ∈ xs))) ∧ w = w')
    (B n0 : Nat) (c : Pl.Cch) (c_gA c_bA c_hA : Option Addr) (c_gc c_bc c_hc : Nat) (w : World) (hbox : w.heap[B]? = some (.cells #[.slice c_gA c.gauges.length c_gc, .int .i64 c.size, .int .i64 c.load, .slice c_bA c.brakes.length c_bc, .slice c_hA c.heats.length c_hc, .bool c.hooks] 27 (0, 0))) (hn0 : n0 ≤ w.heap.size) (hr : CReads w n0 c c_gA c_bA c_hA c_gc c_bc c_hc) :
    SeqStopsK F n Tryz.prog 76 #[.pointer (some ⟨B, 0, none⟩)] (fun x : Int => #[Value.int .i64 x]) (KpM n0) (fun ys => ys = Pl.missing c) (fun _ => True) 10 w := fun l J Jx W hW hJ _ hY h0 =>
  miss_in F n h105 h92 hro hn1 hcon l B n0 c c_gA c_bA c_hA c_gc c_bc c_hc J Jx (fun s W o h => hJ s W _ none h (World.grownBy_alloc W o none) (by simp)) hY W (blk_below hbox hW (lt_of_block hbox)) (Nat.le_trans hn0 hW.size) (hr.below (hW.mono hn0)) h0
end Go.Proofs.YtpbjpochjagicaaGreat

namespace Go.Proofs.YtpbjpochjagicaaGreat
open Go.RowKit Go.Shelf
attribute [local go_sem] Oper.semAt_some

theorem lack_enter (x q1 q2 q3 q4 : Value) (ws : World) : Sem.run Tryz.prog (callFunc 40 #[x, q1, q2, q3, q4]) ws = .ok (.enter 40 #[x, q1, q2, q3, q4]) ws := by kernel_rfl

theorem missing_length (c : Pl.Cch) : (Pl.missing c).length ≤ 10 := by
  rw [missPre_all, List.length_append]
  have := missPre_length c 3 (by omega)
  cases c.hooks <;> simp <;> omega
theorem missing_le (c : Pl.Cch) (x : Int) (h : x ∈ Pl.missing c) : x ≤ 30 := by
  simp only [Pl.missing, List.mem_append, List.mem_filter, List.mem_map, List.mem_cons, List.not_mem_nil, or_false] at h
  rcases h with ((⟨h, _⟩ | ⟨y, ⟨h, _⟩, rfl⟩) | ⟨y, ⟨h, _⟩, rfl⟩) | h
  · omega
  · omega
  · omega
  · cases hh : c.hooks <;> simp [hh] at h <;> omega
theorem ints_putObj {w : World} {A : Option Addr} {l : List Int} {D : Nat} {o o' : Obj} (h : Ints w w.heap.size A l) (hD : w.heap[D]? = some o) (hc : o.isCells = false) : Ints (w.putObj D o') (w.putObj D o').heap.size A l := fun k x hx => by
  obtain ⟨b, off, h1, h2, h3⟩ := h k x hx
  exact ⟨b, off, h1, by simpa using h2, cell_kept h3 (grownBy_putObj' _ D o') (fun r e => by cases e; exact ⟨_, hD, hc⟩)⟩
theorem AskAt.below2 {wr w' : World} {b6 b12 b13 b9 X N : Nat} {c : Pl.Cch} {c_gA c_bA c_hA : Option Addr} {c_gc c_bc c_hc : Nat} {n : Pl.Nt} {n_tA n_sA : Option Addr} {n_tc n_sc : Nat} {fr g ds : Int} (h : AskAt wr b6 b12 b13 b9 X N c c_gA c_bA c_hA c_gc c_bc c_hc n n_tA n_sA n_tc n_sc fr g ds) {B : Nat} (hb : Below B wr w')
    (h6 : b6 < B) (h12 : b12 < B) (h13 : b13 < B) (h9 : b9 < B) (hX : X < B) (hN : N < B) : AskAt w' b6 b12 b13 b9 X N c c_gA c_bA c_hA c_gc c_bc c_hc n n_tA n_sA n_tc n_sc fr g ds :=
  ⟨blk_below h.coach hb h6, blk_below h.ptr hb h12, blk_below h.place hb h13, blk_below h.goal hb h9, h.car.below hb hX hN⟩

theorem KpM.putObj {n0 : Nat} {W : World} {l : Nat} {o o' : Obj} (hn : n0 ≤ l) (h : W.heap[l]? = some o) (hc : o.isCells = false) : KpM n0 W (W.putObj l o') := by
  refine ⟨(Below.refl n0 W).grown (grownBy_putObj' W l o') (by have := lt_of_block h; omega) (fun k e => by cases e; omega), fun k cs t m _ hk => ?_⟩
  rw [World.putObj_heap_other]
  · exact hk
  · intro e; subst e; rw [h] at hk; cases hk; cases hc
theorem KpM.appended {W w1 : World} {n0 B : Nat} {v v' : Value} {k : Nat} {xs : List Value} {tmp : Obj} (hv : Boxed W B 23 v) (hrow : W.ownsRow n0 3 1 v k xs) (hgrow : (W.alloc tmp).grownBy w1 v.ownBlock) :
    ∀ (k : Nat) (cs : Array Value) (t : TypeId) (m : Nat × Nat), (t = 27 ∨ t = 125) → W.heap[k]? = some (Obj.cells cs t m) → (w1.setCell ⟨B, 0, none⟩ v').heap[k]? = some (Obj.cells cs t m) := by
  intro k cs t m ht hk
  have h1 : k ≠ B := by
    intro e; subst e
    rw [show W.heap[k]? = _ from hv] at hk
    injection hk with hk; injection hk with _ hk _; subst hk
    rcases ht with ht | ht <;> cases ht
  have h2 : some k ≠ v.ownBlock := by
    rcases hrow.2 with ⟨rfl, _⟩ | ⟨g, cap, cur, rfl, _, hgb, _⟩
    · simp [Value.ownBlock]
    · intro e
      obtain rfl : k = g := by simpa [Value.ownBlock] using e
      rw [hgb] at hk
      injection hk with hk; injection hk with _ hk _; subst hk
      rcases ht with ht | ht <;> cases ht
  rw [Below.heap_setCell _ _ _ _ (by simpa using h1), hgrow.block k (by simp; have := lt_of_block hk; omega) h2, Below.heap_alloc _ _ _ (lt_of_block hk)]
  exact hk

set_option maxRecDepth 100000 in
set_option maxHeartbeats 4000000 in
theorem lacks_no (n : Pl.Nt) (n_tA n_sA : Option Addr) (n_tc n_sc : Nat) (c : Pl.Cch) (c_gA c_bA c_hA : Option Addr) (c_gc c_bc c_hc : Nat) (fr g ds : Int) (w : World) (F : Fence) (hall : ∀ f, F.fn f) (hro : F.round = none) (hconv : Hid (∀ m f args w R, Calls Tryz.prog f args w R → CallsIn F m Tryz.prog f args w R)) (hn : NReads w w.heap.size n n_tA n_sA n_tc n_sc) (hr : CReads w w.heap.size c c_gA c_bA c_hA c_gc c_bc c_hc) (hA : Pl.asked n c fr g ds ≠ 0) :
    CallsIn F 10 Tryz.prog 13 #[.agg #[.int .i64 n.stops, .slice n_tA n.tracks.length n_tc, .slice n_sA n.shops.length n_sc], .agg #[.slice c_gA c.gauges.length c_gc, .int .i64 c.size, .int .i64 c.load, .slice c_bA c.brakes.length c_bc, .slice c_hA c.heats.length c_hc, .bool c.hooks], .int .i64 fr, .int .i64 g, .int .i64 ds] w (ListPost (Pl.asked n c fr g ds) (Pl.lacks n c fr g ds) w) := by
  have hb3 : Below w.heap.size w (((w.alloc (.cells #[.int .i64 n.stops, .slice n_tA n.tracks.length n_tc, .slice n_sA n.shops.length n_sc] 25)).alloc (.cells #[.slice c_gA c.gauges.length c_gc, .int .i64 c.size, .int .i64 c.load, .slice c_bA c.brakes.length c_bc, .slice c_hA c.heats.length c_hc, .bool c.hooks] 27)).alloc (.cells #[.int .i64 ds] 3)) := (((Below.refl _ _).alloc (Nat.le_refl _) _).alloc (by simp) _).alloc (by simp; omega) _
  have hsz : (((w.alloc (.cells #[.int .i64 n.stops, .slice n_tA n.tracks.length n_tc, .slice n_sA n.shops.length n_sc] 25)).alloc (.cells #[.slice c_gA c.gauges.length c_gc, .int .i64 c.size, .int .i64 c.load, .slice c_bA c.brakes.length c_bc, .slice c_hA c.heats.length c_hc, .bool c.hooks] 27)).alloc (.cells #[.int .i64 ds] 3)).heap.size = w.heap.size + 1 + 1 + 1 := by simp
  have Hn := Lib.hid ((hn.below hb3).more (B' := w.heap.size + 1 + 1 + 1) (by omega))
  have Hr := Lib.hid ((hr.below hb3).more (B' := w.heap.size + 1 + 1 + 1) (by omega))
  have HB3 := Lib.hid hb3
  clear hb3 hn hr
  have HQ := Lib.hid (hconv.out 9 _ _ _ _ (asked_no n n_tA n_sA n_tc n_sc c c_gA c_bA c_hA c_gc c_bc c_hc fr g ds _ (by rw [hsz]; exact Hn.out) (by rw [hsz]; exact Hr.out) hA))
  have hb : (Pl.asked n c fr g ds != 0) = true := by rw [bne_iff_ne]; exact hA
  have HA : Hid (Pl.asked n c fr g ds ≠ 0) := hA
  clear hA
  have h1 : 1 ≤ 10 := by omega
  generalize Pl.lacks n c fr g ds = R
  refine callsIn_of_wp_marks Tryz.func13 rfl (hall 13) ?_ hro
  simp only [Tryz.ntmps13, List.size_toArray, List.length_cons, List.length_nil, Nat.reduceAdd, Nat.reduceSub, Array.replicate_succ, Array.replicate_zero, List.push_toArray, List.append_toArray, List.nil_append, List.cons_append]
  gi_wp2_with (gi_at_call 37; refine HQ.out.mono ?_; rintro e w1 ⟨rfl, hb1⟩; rw [hsz] at hb1; have HW := Lib.hid (HB3.out.trans (hb1.mono (by omega))); have hs := HW.out.size; clear hb1)
  exact ⟨_, results_tmp2 rfl _ _ _, listPost_asked HA.out ((HW.out.alloc hs _).alloc (by simp; omega) _)⟩

set_option maxRecDepth 100000 in
set_option maxHeartbeats 4000000 in
theorem lacks_yes (n : Pl.Nt) (n_tA n_sA : Option Addr) (n_tc n_sc : Nat) (c : Pl.Cch) (c_gA c_bA c_hA : Option Addr) (c_gc c_bc c_hc : Nat) (fr g ds : Int) (w : World) (F : Fence) (hall : ∀ f, F.fn f) (hro : F.round = none) (hconv : Hid (∀ m f args w R, Calls Tryz.prog f args w R → CallsIn F m Tryz.prog f args w R)) (hn : NReads w w.heap.size n n_tA n_sA n_tc n_sc) (hr : CReads w w.heap.size c c_gA c_bA c_hA c_gc c_bc c_hc) (hA : Pl.asked n c fr g ds = 0) :
    CallsIn F 10 Tryz.prog 13 #[.agg #[.int .i64 n.stops, .slice n_tA n.tracks.length n_tc, .slice n_sA n.shops.length n_sc], .agg #[.slice c_gA c.gauges.length c_gc, .int .i64 c.size, .int .i64 c.load, .slice c_bA c.brakes.length c_bc, .slice c_hA c.heats.length c_hc, .bool c.hooks], .int .i64 fr, .int .i64 g, .int .i64 ds] w (ListPost 0 (Pl.lacks n c fr g ds) w) := by
  have hb3 : Below w.heap.size w (((w.alloc (.cells #[.int .i64 n.stops, .slice n_tA n.tracks.length n_tc, .slice n_sA n.shops.length n_sc] 25)).alloc (.cells #[.slice c_gA c.gauges.length c_gc, .int .i64 c.size, .int .i64 c.load, .slice c_bA c.brakes.length c_bc, .slice c_hA c.heats.length c_hc, .bool c.hooks] 27)).alloc (.cells #[.int .i64 ds] 3)) := (((Below.refl _ _).alloc (Nat.le_refl _) _).alloc (by simp) _).alloc (by simp; omega) _
  have hsz : (((w.alloc (.cells #[.int .i64 n.stops, .slice n_tA n.tracks.length n_tc, .slice n_sA n.shops.length n_sc] 25)).alloc (.cells #[.slice c_gA c.gauges.length c_gc, .int .i64 c.size, .int .i64 c.load, .slice c_bA c.brakes.length c_bc, .slice c_hA c.heats.length c_hc, .bool c.hooks] 27)).alloc (.cells #[.int .i64 ds] 3)).heap.size = w.heap.size + 1 + 1 + 1 := by simp
  have Hn := Lib.hid ((hn.below hb3).more (B' := w.heap.size + 1 + 1 + 1) (by omega))
  have Hr := Lib.hid ((hr.below hb3).more (B' := w.heap.size + 1 + 1 + 1) (by omega))
  have HB3 := Lib.hid hb3
  clear hb3 hn hr
  have HQ := Lib.hid (hconv.out 9 _ _ _ _ (asked_yes n n_tA n_sA n_tc n_sc c c_gA c_bA c_hA c_gc c_bc c_hc fr g ds _ (by rw [hsz]; exact Hn.out) (by rw [hsz]; exact Hr.out) hA))
  have hU := fun (l : List Int) => asked_in (c' := Pl.given c l) (reb := []) hA
  have hFine := (fits_lists (both_check (question_b (asked_q hA).1).1).2).2
  have HU := Lib.hid hU; have HFine := Lib.hid hFine
  clear hU hA hFine
  have h1 : 1 ≤ 10 := by omega
  generalize hRR : Pl.lacks n c fr g ds = R
  have HRR := Lib.hid hRR; clear hRR
  refine callsIn_of_wp_marks Tryz.func13 rfl (hall 13) ?_ hro
  simp only [Tryz.ntmps13, List.size_toArray, List.length_cons, List.length_nil, Nat.reduceAdd, Nat.reduceSub, Array.replicate_succ, Array.replicate_zero, List.push_toArray, List.append_toArray, List.nil_append, List.cons_append]
  have hpre : ∀ (w1 : World) (X N : Nat), CarAt w1 X N c c_gA c_bA c_hA c_gc c_bc c_hc n n_tA n_sA n_tc n_sc none 0 0 → Below (((w.alloc (.cells #[.int .i64 n.stops, .slice n_tA n.tracks.length n_tc, .slice n_sA n.shops.length n_sc] 25)).alloc (.cells #[.slice c_gA c.gauges.length c_gc, .int .i64 c.size, .int .i64 c.load, .slice c_bA c.brakes.length c_bc, .slice c_hA c.heats.length c_hc, .bool c.hooks] 27)).alloc (.cells #[.int .i64 ds] 3)).heap.size (((w.alloc (.cells #[.int .i64 n.stops, .slice n_tA n.tracks.length n_tc, .slice n_sA n.shops.length n_sc] 25)).alloc (.cells #[.slice c_gA c.gauges.length c_gc, .int .i64 c.size, .int .i64 c.load, .slice c_bA c.brakes.length c_bc, .slice c_hA c.heats.length c_hc, .bool c.hooks] 27)).alloc (.cells #[.int .i64 ds] 3)) w1 →
      AskAt ((w1.alloc (.cells #[.pointer (some ⟨X, 0, none⟩)] 63)).alloc (.cells #[.int .i64 fr, .int .i64 g] 65)) (w.heap.size + 1) w1.heap.size (w1.heap.size + 1) (w.heap.size + 1 + 1) X N c c_gA c_bA c_hA c_gc c_bc c_hc n n_tA n_sA n_tc n_sc fr g ds ∧
      Below w.heap.size w ((w1.alloc (.cells #[.pointer (some ⟨X, 0, none⟩)] 63)).alloc (.cells #[.int .i64 fr, .int .i64 g] 65)) ∧ w.heap.size + 1 + 1 + 1 ≤ w1.heap.size ∧ NReads w1 w1.heap.size n n_tA n_sA n_tc n_sc ∧ CReads w1 w1.heap.size c c_gA c_bA c_hA c_gc c_bc c_hc := by
    intro w1 X N hcar hb
    rw [hsz] at hb
    obtain ⟨h1, h2⟩ := asked_world (fr := fr) (g := g) hcar hb
    have hs1 : w.heap.size + 1 + 1 + 1 ≤ w1.heap.size := by have := hb.size; rwa [hsz] at this
    exact ⟨h1, h2, hs1, (Hn.out.below hb).more hs1, (Hr.out.below hb).more hs1⟩
  have HPre := Lib.hid hpre
  clear hpre hsz
  gi_wp2_with (gi_at_call 37; refine HQ.out.mono ?_; rintro e w1 ⟨X, N, rfl, hcar, hX, hN, hb⟩; obtain ⟨hAsk, hBW, hs1, hn1, hr1⟩ := HPre.out w1 X N hcar hb; obtain ⟨x0, x1, x2, x3, x4, x5⟩ := box_cells c _ _ _ _ _ _ (blk_alloc hAsk.coach (.cells #[.slice none 0 0] 23)); have HAsk := Lib.hid hAsk; have HBW := Lib.hid hBW; have Hn1 := Lib.hid hn1; have Hr1 := Lib.hid hr1; clear hAsk hBW hcar hb hn1 hr1 hX hN HQ HPre)
  refine (hconv.out 9 _ _ _ _ (missing_any c c_gA c_bA c_hA c_gc c_bc c_hc _)).mono ?_
  rintro e w2 ⟨rfl, rfl⟩
  clear x0 x1 x2 x3 x4 x5
  gi_wp2_with fail
  obtain ⟨W3, hW3⟩ : ∃ W3, ((((w1.alloc (.cells #[.pointer (some ⟨X, 0, none⟩)] 63)).alloc (.cells #[.int .i64 fr, .int .i64 g] 65)).alloc (.cells #[.slice none 0 0] 23)).alloc (.cells #[.slice c_gA c.gauges.length c_gc, .int .i64 c.size, .int .i64 c.load, .slice c_bA c.brakes.length c_bc, .slice c_hA c.heats.length c_hc, .bool c.hooks] 27)) = W3 := ⟨_, rfl⟩
  have hbO : Boxed W3 (w1.heap.size + 1 + 1) 23 (.slice none 0 0) := by
    rw [← hW3]
    have := Boxed.new ((w1.alloc (.cells #[.pointer (some ⟨X, 0, none⟩)] 63)).alloc (.cells #[.int .i64 fr, .int .i64 g] 65)) 23 (.slice none 0 0)
    simpa using this.alloc (.cells #[.slice c_gA c.gauges.length c_gc, .int .i64 c.size, .int .i64 c.load, .slice c_bA c.brakes.length c_bc, .slice c_hA c.heats.length c_hc, .bool c.hooks] 27)
  have hbC : W3.heap[w1.heap.size + 1 + 1 + 1]? = some (.cells #[.slice c_gA c.gauges.length c_gc, .int .i64 c.size, .int .i64 c.load, .slice c_bA c.brakes.length c_bc, .slice c_hA c.heats.length c_hc, .bool c.hooks] 27 (0, 0)) := by
    rw [← hW3]
    have := heap_alloc_new (((w1.alloc (.cells #[.pointer (some ⟨X, 0, none⟩)] 63)).alloc (.cells #[.int .i64 fr, .int .i64 g] 65)).alloc (.cells #[.slice none 0 0] 23)) (.cells #[.slice c_gA c.gauges.length c_gc, .int .i64 c.size, .int .i64 c.load, .slice c_bA c.brakes.length c_bc, .slice c_hA c.heats.length c_hc, .bool c.hooks] 27)
    simpa using this
  have hs3 : W3.heap.size = w1.heap.size + 1 + 1 + 1 + 1 := by rw [← hW3]; simp
  have hb13 : Below w1.heap.size w1 W3 := by rw [← hW3]; exact ((((Below.refl _ _).alloc (Nat.le_refl _) _).alloc (by simp) _).alloc (by simp <;> omega) _).alloc (by simp <;> omega) _
  have hb23 : Below (w1.heap.size + 1 + 1) ((w1.alloc (.cells #[.pointer (some ⟨X, 0, none⟩)] 63)).alloc (.cells #[.int .i64 fr, .int .i64 g] 65)) W3 := by rw [← hW3]; exact ((Below.refl _ _).alloc (by simp) _).alloc (by simp <;> omega) _
  have hn3 := (Hn1.out.below hb13).more (B' := w1.heap.size + 1 + 1) (by omega)
  have hr3 := (Hr1.out.below hb13).more (B' := w1.heap.size + 1 + 1) (by omega)
  have hAsk3 := HAsk.out.below hb23 (by simp)
  have hXN : X < w1.heap.size + 1 + 1 ∧ N < w1.heap.size + 1 + 1 := by
    have h1 := HAsk.out.car.ltX; have h2 := HAsk.out.car.ltN
    simp at h1 h2; omega
  have hBW3 := HBW.out.trans (hb23.mono (by omega))
  have Hn3 := Lib.hid hn3; have Hr3 := Lib.hid hr3; have HAsk3 := Lib.hid hAsk3; have HBW3 := Lib.hid hBW3
  rw [hW3]
  clear hW3 hb13 hb23 hn3 hAsk3 hBW3 HAsk HBW Hn1 Hr1 Hn Hr HB3 hr3
  obtain ⟨i0, hi, hz0, hz1, hz2⟩ := info_parts int_info
  refine wpIn_rangeFunc_ownG hro h1 (gf := 76) (lb := #[.pointer (some ⟨w1.heap.size + 1 + 1 + 1, 0, none⟩)]) rfl (hall 76) (enters_of Tryz.func76 (by kernel_rfl) rfl)
    (miss_stops F 9 (hall 76) (hall 55) hro (by omega) (fun A cp xs x B w hI hl => hconv.out 8 _ _ _ _ (contains_any A cp xs x B w hI hl)) (w1.heap.size + 1 + 1 + 1) (w1.heap.size + 1 + 1) c c_gA c_bA c_hA c_gc c_bc c_hc W3 hbC (by omega) Hr3.out)
    KpM.trans (fun W l o o' hl ho hc _ => KpM.putObj (by omega) ho hc) (Below.refl _ _) (fun _ => rfl)
    (fun pre W => (∃ v, Boxed W (w1.heap.size + 1 + 1) 23 v ∧ W.ownsRow (w1.heap.size + 1 + 1) 3 1 v pre.length (pre.map (Value.int .i64)) ∧ True) ∧ Below (w1.heap.size + 1 + 1) W3 W)
    (fun _ _ _ => False)
    (OwnFrom.and (Own.from (holdsRow_own (w1.heap.size + 1 + 1) (w1.heap.size + 1 + 1) 23 3 1 (fun pre : List Int => pre.length) (fun pre => pre.map (Value.int .i64)) (fun _ _ => True)) _) (ownFrom_below (by omega) (by omega)))
    (fun _ _ _ _ _ hs _ _ => hs)
    ⟨⟨_, hbO, World.ownsRow_nil _ _ _ _, trivial⟩, Below.refl _ _⟩
    (fun x => { tmps := #[.agg #[.int .i64 n.stops, .slice n_tA n.tracks.length n_tc, .slice n_sA n.shops.length n_sc], .agg #[.slice c_gA c.gauges.length c_gc, .int .i64 c.size, .int .i64 c.load, .slice c_bA c.brakes.length c_bc, .slice c_hA c.heats.length c_hc, .bool c.hooks], .int .i64 fr, .int .i64 g, .int .i64 ds, .pointer (some ⟨w.heap.size, 0, none⟩), .pointer (some ⟨w.heap.size + 1, 0, none⟩), undef, undef, .pointer (some ⟨w.heap.size + 1 + 1, 0, none⟩), .slice none 0 0, .int .i64 0, .pointer (some ⟨w1.heap.size, 0, none⟩), .pointer (some ⟨w1.heap.size + 1, 0, none⟩), .int .i64 0, .pointer (some ⟨w1.heap.size + 1 + 1, 0, none⟩), .int .i64 x, undef, undef, .tuple #[.pointer (some ⟨X, 0, none⟩), .agg #[.int .i64 fr, .int .i64 g], .int .i64 0], .agg #[.int .i64 n.stops, .slice n_tA n.tracks.length n_tc, .slice n_sA n.shops.length n_sc], .agg #[.slice c_gA c.gauges.length c_gc, .int .i64 c.size, .int .i64 c.load, .slice c_bA c.brakes.length c_bc, .slice c_hA c.heats.length c_hc, .bool c.hooks], .int .i64 fr, .int .i64 g, .int .i64 ds, .tuple #[.pointer (some ⟨X, 0, none⟩), .agg #[.int .i64 fr, .int .i64 g], .int .i64 0], .pointer (some ⟨X, 0, none⟩), .agg #[.int .i64 fr, .int .i64 g], .int .i64 0, .int .i64 0, .bool false, undef, .agg #[.slice c_gA c.gauges.length c_gc, .int .i64 c.size, .int .i64 c.load, .slice c_bA c.brakes.length c_bc, .slice c_hA c.heats.length c_hc, .bool c.hooks], .func (.func 76) #[] #[.pointer (some ⟨w1.heap.size + 1 + 1 + 1, 0, none⟩)], .int .i64 x, undef, undef, undef, undef, undef, undef, undef, undef, undef, undef, undef, undef, undef], defers := [] }) ?assign ?body ?done ?stop
  case assign =>
    intro l x W K hK
    gi_wp2
    exact hK
  case body =>
    rintro l pre x W ⟨⟨v, hv, hrow, _⟩, hB⟩ hlt
    have hc := hv.cell
    have hszW := hB.size
    gi_wp2_with (gi_at_builtin; refine wpListIn_append_own _ rfl _ _ 23 rfl (w1.heap.size + 1 + 1) 3 i0 (.int .i64 0) 1 8 Tryz.underlying23 hi hz0 hz1 hz2 rfl (by decide) _ _ _ rfl (hrow.alloc _) ⟨W.heap.size, 0, none⟩ 1 1 [.int .i64 x] rfl rfl (cell_one_new _ _ _) (by simp [Value.oneCell']) (by simp [maxLen]; omega) (by omega) (by simp; omega) ?_; intro v' w1' hown' hgrow _; obtain ⟨g', cap', rfl⟩ := ownsRow_succ hown'; obtain ⟨hv1, hv2, hr2, hk2, hb2⟩ := hv.appended (by decide) hrow (by omega) (Nat.le_refl _) hown' hgrow; have hc1 := hv1.cell; have hf1 := hv1.frozen)
    exact ⟨hk2.from _, ⟨hb2, KpM.appended hv hrow hgrow⟩, ⟨_, hv2, by simpa using hr2, trivial⟩, hB.trans hb2⟩
  case done =>
    rintro D ys W hD rfl ⟨⟨v, hv, hrow, _⟩, hB⟩ hK
    obtain ⟨A, ca, rfl⟩ := own_slice hrow
    have hown : OwnInts W (w1.heap.size + 1 + 1) A ca (Pl.missing c) := hrow
    have hml := missing_length c
    have hF := hconv.out 9 _ _ _ _ (fewest_any A ca (Pl.missing c) 40 (.pointer (some ⟨w.heap.size + 1, 0, none⟩)) (.pointer (some ⟨w1.heap.size, 0, none⟩)) (.pointer (some ⟨w1.heap.size + 1, 0, none⟩)) (.pointer (some ⟨w.heap.size + 1 + 1, 0, none⟩))
      (fun l => Pl.comes n (Pl.given c l) [] (fr, g) ds) W (fun x ws => lack_enter x _ _ _ _ ws)
      (fun wq A' c' l hbq hI hin hlq => by
        have hbz := hB.trans (hbq.mono (by have := hB.size; omega))
        have hsq := hbz.size
        exact lack_any (w.heap.size + 1) w1.heap.size (w1.heap.size + 1) (w.heap.size + 1 + 1) X N c c_gA c_bA c_hA c_gc c_bc c_hc n n_tA n_sA n_tc n_sc fr g ds A' c' l wq (HAsk3.out.below2 hbz (by omega) (by omega) (by omega) (by omega) hXN.1 hXN.2) ((Hr3.out.below hbz).more (by omega)) ((Hn3.out.below hbz).more (by omega)) hI (by omega) HFine.out (fun x hx => by have := missing_le c x (hin x hx); omega) places (HU.out l) places_length)
      (by omega) hown.ints)
    have HF := Lib.hid hF
    have hsB := hB.size
    have HBz := Lib.hid (HBW3.out.trans (hB.mono (by omega)))
    have hR : Hid (Pl.fewest (Pl.missing c) (fun l => Pl.comes n (Pl.given c l) [] (fr, g) ds) = R) := HRR.out
    rw [hR.out] at HF
    have hcv := hv.cell
    have hDlt := lt_of_block hK
    have HK := Lib.hid hK
    clear hF hown hB hR HRR HAsk3 HU Hn3 Hr3 hrow hv hK
    cases R with
    | none =>
      gi_wp2_with (gi_at_call 39; refine HF.out.mono ?_; rintro e w3 ⟨A3, n3, c3, rfl, hb3⟩)
      have hK3 := blk_below HK.out hb3 hDlt
      refine ⟨by simp, .inl ⟨_, _, rfl, run_takeDeferred hK3, ?_⟩⟩
      exact ⟨.tuple #[.slice none 0 0, .int .i64 11], by simp [results, go_sem], listPost_none ((HBz.out.trans (hb3.mono (HBz.out.size))).trans (belowK_b (w := w) (Nat.le_refl _) w3 D _ _ (by omega) hK3 rfl rfl))⟩
    | some l =>
      gi_wp2_with (gi_at_call 39; refine HF.out.mono ?_; rintro e w3 ⟨A3, c3, rfl, hI3, hb3⟩)
      have hK3 := blk_below HK.out hb3 hDlt
      refine ⟨by simp, .inl ⟨_, _, rfl, run_takeDeferred hK3, ?_⟩⟩
      exact ⟨.tuple #[.slice A3 l.length c3, .int .i64 0], by simp [results, go_sem], listPost_some (ints_putObj hI3 hK3 rfl) ((HBz.out.trans (hb3.mono (HBz.out.size))).trans (belowK_b (w := w) (Nat.le_refl _) w3 D _ _ (by omega) hK3 rfl rfl))⟩
  case stop =>
    rintro D c pre W _ _ h _
    exact h.elim

theorem lacks_any (n : Pl.Nt) (n_tA n_sA : Option Addr) (n_tc n_sc : Nat) (c : Pl.Cch) (c_gA c_bA c_hA : Option Addr) (c_gc c_bc c_hc : Nat) (fr g ds : Int) (w : World) (hn : NReads w w.heap.size n n_tA n_sA n_tc n_sc) (hr : CReads w w.heap.size c c_gA c_bA c_hA c_gc c_bc c_hc) :
    Calls Tryz.prog 13 #[.agg #[.int .i64 n.stops, .slice n_tA n.tracks.length n_tc, .slice n_sA n.shops.length n_sc], .agg #[.slice c_gA c.gauges.length c_gc, .int .i64 c.size, .int .i64 c.load, .slice c_bA c.brakes.length c_bc, .slice c_hA c.heats.length c_hc, .bool c.hooks], .int .i64 fr, .int .i64 g, .int .i64 ds] w (ListPost (Pl.asked n c fr g ds) (Pl.lacks n c fr g ds) w) := by
  have hc : Hid (∀ m f args w R, Calls Tryz.prog f args w R → CallsIn Fence.wide m Tryz.prog f args w R) := fun m f args w R h => callsIn_wide.2 h
  by_cases hA : Pl.asked n c fr g ds = 0
  · have := callsIn_wide.1 (lacks_yes n n_tA n_sA n_tc n_sc c c_gA c_bA c_hA c_gc c_bc c_hc fr g ds w Fence.wide (fun _ => trivial) rfl hc hn hr hA)
    rwa [hA]
  · exact callsIn_wide.1 (lacks_no n n_tA n_sA n_tc n_sc c c_gA c_bA c_hA c_gc c_bc c_hc fr g ds w Fence.wide (fun _ => trivial) rfl hc hn hr hA)
end Go.Proofs.YtpbjpochjagicaaGreat
