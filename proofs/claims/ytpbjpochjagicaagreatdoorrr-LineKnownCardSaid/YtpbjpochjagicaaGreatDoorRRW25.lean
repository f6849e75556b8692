/- Walks: what a car has not, one by one. -/
import Derived.RangeFuncNested
import Derived.RangeFuncBound
import Derived.RangeFuncCalls
import Derived.RangeFuncLeaves
import Derived.RangeFuncBox
import Derived.Shelf.Abstract
import Derived.Shelf.RegionOpen
import Derived.OwnWalkIn
import Derived.TacticsInMore
import Derived.LoopNIn
import Derived.LoopIn
import Derived.Test.YtpbjpochjagicaaGreatDoorRRW14
namespace Go.Proofs.YtpbjpochjagicaaGreatDoorRR
open Go.RowKit Go.Shelf
attribute [local go_sem] Oper.semAt_some

/-- What lay below n0 and the boxes of coaches and kinds are as they were. -/
def KpM (n0 : Nat) (W W' : World) : Prop := Below n0 W W' ∧ ∀ (k : Nat) (cs : Array Value) (t : TypeId) (m : Nat × Nat), (t = 28 ∨ t = 118) → W.heap[k]? = some (Obj.cells cs t m) → W'.heap[k]? = some (Obj.cells cs t m)
theorem KpM.refl (n0 : Nat) (W : World) : KpM n0 W W := ⟨Below.refl _ _, fun _ _ _ _ _ h => h⟩
theorem KpM.trans {n0 : Nat} {A B C : World} (h : KpM n0 A B) (h' : KpM n0 B C) : KpM n0 A C := ⟨h.1.trans h'.1, fun k cs t m ht hk => h'.2 k cs t m ht (h.2 k cs t m ht hk)⟩
theorem KpM.alloc {n0 : Nat} (W : World) (o : Obj) (hn : n0 ≤ W.heap.size) : KpM n0 W (W.alloc o) := ⟨(Below.refl _ _).alloc hn _, fun _ _ _ _ _ h => blk_alloc h _⟩

/-- The first m of 1, 2, .. that are not in the list, told from a base on. -/
def upTo (has : List Int) (base : Int) (m : Nat) : List Int := ((List.range m).filter fun k : Nat => decide ((k : Int) + 1 ∉ has)).map fun k : Nat => base + ((k : Int) + 1)
theorem upTo_in {has : List Int} {base : Int} {m : Nat} (h : (m : Int) + 1 ∈ has) : upTo has base (m + 1) = upTo has base m := by
  simp [upTo, List.range_succ, h]
theorem upTo_out {has : List Int} {base : Int} {m : Nat} (h : (m : Int) + 1 ∉ has) : upTo has base (m + 1) = upTo has base m ++ [base + ((m : Int) + 1)] := by
  simp [upTo, List.range_succ, h]
theorem upTo_length (has : List Int) (base : Int) (m : Nat) : (upTo has base m).length ≤ m := by
  simp only [upTo, List.length_map]
  exact Nat.le_trans (List.length_filter_le _ _) (by simp)
def missPre (c : Pl.Cch) : Nat → List Int
  | 0 => []
  | 1 => upTo c.gauges 0 3
  | 2 => upTo c.gauges 0 3 ++ upTo c.brakes 10 3
  | _ => upTo c.gauges 0 3 ++ upTo c.brakes 10 3 ++ upTo c.heats 20 3
theorem upTo3 (has : List Int) (base : Int) : upTo has base 3 = ([1, 2, 3].filter fun n => decide (n ∉ has)).map (base + ·) := by
  by_cases h1 : (1 : Int) ∈ has <;> by_cases h2 : (2 : Int) ∈ has <;> by_cases h3 : (3 : Int) ∈ has <;> simp [upTo, List.range_succ, h1, h2, h3]
theorem missPre_all (c : Pl.Cch) : Pl.missing c = missPre c 3 ++ if c.hooks then [] else [30] := by
  simp only [Pl.missing, missPre, upTo3]
  congr 2
  simp
theorem missPre_length (c : Pl.Cch) (i : Nat) (hi : i ≤ 3) : (missPre c i).length ≤ 3 * i := by
  have h1 := upTo_length c.gauges 0 3; have h2 := upTo_length c.brakes 10 3; have h3 := upTo_length c.heats 20 3
  have : i = 0 ∨ i = 1 ∨ i = 2 ∨ i = 3 := by omega
  rcases this with rfl | rfl | rfl | rfl <;> simp [missPre] <;> omega

set_option maxHeartbeats 400000 in
theorem missing_any (c : Pl.Cch) (c_gA c_bA c_hA : Option Addr) (c_gc c_bc c_hc : Nat) (w : World) : Calls Tryz.prog 38 #[.agg #[.slice c_gA c.gauges.length c_gc, .int .i64 c.size, .int .i64 c.load, .slice c_bA c.brakes.length c_bc, .slice c_hA c.heats.length c_hc, .bool c.hooks]] w fun e w' => e = .returned (.func (.func 58) #[] #[.pointer (some ⟨w.heap.size, 0, none⟩)]) ∧ w.alloc (.cells #[.slice c_gA c.gauges.length c_gc, .int .i64 c.size, .int .i64 c.load, .slice c_bA c.brakes.length c_bc, .slice c_hA c.heats.length c_hc, .bool c.hooks] 28) = w' := by
  go_enter Tryz.func38, Tryz.ntmps38
  go_wp2_with fail
  go_ret
  exact ⟨rfl, rfl⟩

set_option maxRecDepth 100000 in
set_option maxHeartbeats 4000000 in
theorem miss_in (F : Fence) (n : Nat) (h105 : F.fn 58) (h92 : F.fn 28) (hro : F.round = none) (hn1 : 1 ≤ n)
    (hcon : ∀ (A : Option Addr) (cp : Nat) (xs : List Int) (x : Int) (B : Nat) (w : World), Ints w B A xs → xs.length ≤ 9223372036854775807 → CallsIn F (n - 1) Tryz.prog 28 #[.slice A xs.length cp, .int .i64 x] w fun e w' => e = .returned (.bool (decide (x ∈ xs))) ∧ w = w')
    (l B n0 : Nat) (c : Pl.Cch) (c_gA c_bA c_hA : Option Addr) (c_gc c_bc c_hc : Nat) (J Jx : List Int → World → Prop) (hJa : ∀ s W o, J s W → J s (W.alloc o))
    (hY : ∀ pre x W, J pre W → pre.length < 10 → YieldAt F (n - 1) Tryz.prog l #[.int .i64 x] W fun e W' =>
      (e = .returned (.bool true) ∧ J (pre ++ [x]) W' ∧ KpM n0 W W') ∨ (e = .returned (.bool false) ∧ Jx (pre ++ [x]) W'))
    (W : World) (hbox : W.heap[B]? = some (.cells #[.slice c_gA c.gauges.length c_gc, .int .i64 c.size, .int .i64 c.load, .slice c_bA c.brakes.length c_bc, .slice c_hA c.heats.length c_hc, .bool c.hooks] 28 (0, 0))) (hn0 : n0 ≤ W.heap.size) (hr : CReads W n0 c c_gA c_bA c_hA c_gc c_bc c_hc) (h0 : J [] W) :
    CallsIn F n Tryz.prog 58 #[.func (.yield l) #[] #[], .pointer (some ⟨B, 0, none⟩)] W fun e W' => (∃ v, e = .returned v) ∧
      ((∃ ys, ys = Pl.missing c ∧ J ys W') ∨ (∃ pre, True ∧ Jx pre W')) := by
  obtain ⟨x0, x1, x2, x3, x4, x5⟩ := box_cells c _ _ _ _ _ _ hbox
  have HCon := Lib.hid hcon; clear hcon
  have HY := Lib.hid hY; have HJa := Lib.hid hJa; have Hr := Lib.hid hr
  clear hY hJa hr
  refine callsIn_of_wp Tryz.func58 rfl h105 ?_ hro
  simp only [Tryz.ntmps58, List.size_toArray, List.length_cons, List.length_nil, Nat.reduceAdd, Nat.reduceSub, Array.replicate_succ, Array.replicate_zero, List.push_toArray, List.append_toArray, List.nil_append, List.cons_append]
  gi_wp2_with fail
  have hK : (W.alloc (.cells #[.int .i64 0, .int .i64 3, .slice c_gA c.gauges.length c_gc, .int .i64 10, .int .i64 3, .slice c_bA c.brakes.length c_bc, .int .i64 20, .int .i64 3, .slice c_hA c.heats.length c_hc] 118)).heap[W.heap.size]? = some (.cells #[.int .i64 0, .int .i64 3, .slice c_gA c.gauges.length c_gc, .int .i64 10, .int .i64 3, .slice c_bA c.brakes.length c_bc, .int .i64 20, .int .i64 3, .slice c_hA c.heats.length c_hc] 118 (0, 0)) := heap_alloc_new W _
  have hJ0 := HJa.out _ _ (.cells #[.int .i64 0, .int .i64 3, .slice c_gA c.gauges.length c_gc, .int .i64 10, .int .i64 3, .slice c_bA c.brakes.length c_bc, .int .i64 20, .int .i64 3, .slice c_hA c.heats.length c_hc] 118) h0
  have hB0 := blk_alloc hbox (.cells #[.int .i64 0, .int .i64 3, .slice c_gA c.gauges.length c_gc, .int .i64 10, .int .i64 3, .slice c_bA c.brakes.length c_bc, .int .i64 20, .int .i64 3, .slice c_hA c.heats.length c_hc] 118)
  have hR0 := Hr.out.below ((Below.refl n0 W).alloc hn0 (.cells #[.int .i64 0, .int .i64 3, .slice c_gA c.gauges.length c_gc, .int .i64 10, .int .i64 3, .slice c_bA c.brakes.length c_bc, .int .i64 20, .int .i64 3, .slice c_hA c.heats.length c_hc] 118))
  gi_loopw [5, 6, 19] (fun u5 u6 i wr => ∃ k : Nat, k ≤ 3 ∧ i = .int .i64 k ∧ J (missPre c k) wr ∧ wr.heap[B]? = some (.cells #[.slice c_gA c.gauges.length c_gc, .int .i64 c.size, .int .i64 c.load, .slice c_bA c.brakes.length c_bc, .slice c_hA c.heats.length c_hc, .bool c.hooks] 28 (0, 0)) ∧
      wr.heap[W.heap.size]? = some (.cells #[.int .i64 0, .int .i64 3, .slice c_gA c.gauges.length c_gc, .int .i64 10, .int .i64 3, .slice c_bA c.brakes.length c_bc, .int .i64 20, .int .i64 3, .slice c_hA c.heats.length c_hc] 118 (0, 0)) ∧ CReads wr n0 c c_gA c_bA c_hA c_gc c_bc c_hc ∧ n0 ≤ wr.heap.size)
    (fun _ _ i _ => 3 - (intOf i).toNat)
  case atStart => exact ⟨0, by omega, rfl, hJ0, hB0, hK, hR0, by simp; omega⟩
  case round =>
    obtain ⟨k, hk, rfl, hJ, hB, hKi, hR, hn⟩ := hrel
    clear hK hJ0 hB0 hR0 h0 hbox x0 x1 x2 x3 x4 x5
    by_cases hlt : k < 3
    · obtain ⟨bs, A, has, cp, hb0, hb1, hpre, hlen, hI, hcells⟩ : ∃ (bs : Int) (A : Option Addr) (has : List Int) (cp : Nat), 0 ≤ bs ∧ bs ≤ 20 ∧ missPre c (k + 1) = missPre c k ++ upTo has bs 3 ∧ has.length ≤ 140737488355328 ∧ Ints wr n0 A has ∧
          wr.cell? ⟨W.heap.size, k * 3, none⟩ = some (.int .i64 bs) ∧ wr.cell? ⟨W.heap.size, k * 3 + 1, none⟩ = some (.int .i64 3) ∧ wr.cell? ⟨W.heap.size, k * 3 + 2, none⟩ = some (.slice A has.length cp) := by
        have h3 : k = 0 ∨ k = 1 ∨ k = 2 := by omega
        rcases h3 with rfl | rfl | rfl
        · exact ⟨0, c_gA, c.gauges, c_gc, by omega, by omega, rfl, hR.lenG, hR.gauges, blk_cell hKi 0, blk_cell hKi 1, blk_cell hKi 2⟩
        · exact ⟨10, c_bA, c.brakes, c_bc, by omega, by omega, rfl, hR.lenB, hR.brakes, blk_cell hKi 3, blk_cell hKi 4, blk_cell hKi 5⟩
        · exact ⟨20, c_hA, c.heats, c_hc, by omega, by omega, rfl, hR.lenH, hR.heats, blk_cell hKi 6, blk_cell hKi 7, blk_cell hKi 8⟩
      obtain ⟨hc0, hc1, hc2⟩ := hcells
      have hki : (k : Int) < 3 := by omega
      have hPl := missPre_length c k (by omega)
      have hJ2 := HJa.out _ _ (.cells #[.int .i64 bs, .int .i64 3, .slice A has.length cp] 118) hJ
      have hT2 : (wr.alloc (.cells #[.int .i64 bs, .int .i64 3, .slice A has.length cp] 118)).heap[wr.heap.size]? = some (.cells #[.int .i64 bs, .int .i64 3, .slice A has.length cp] 118 (0, 0)) := heap_alloc_new wr _
      have hB2 := blk_alloc hB (.cells #[.int .i64 bs, .int .i64 3, .slice A has.length cp] 118)
      have hK2 := blk_alloc hKi (.cells #[.int .i64 bs, .int .i64 3, .slice A has.length cp] 118)
      have hbA := (Below.refl n0 wr).alloc hn (.cells #[.int .i64 bs, .int .i64 3, .slice A has.length cp] 118)
      have hR2 := hR.below hbA
      have hI2 := hI.below hbA
      have Hpre := Lib.hid hpre
      clear hpre hB hKi hR hI hbA hJ
      obtain ⟨wo, rfl⟩ : ∃ wo : World, wo = wr := ⟨_, rfl⟩
      gi_wp2_with fail
      have hJ3 : J (missPre c k ++ upTo has bs 0) (wo.alloc (.cells #[.int .i64 bs, .int .i64 3, .slice A has.length cp] 118)) := by simpa [upTo] using hJ2
      clear hJ2
      gi_loopw [6] (fun u6 wj => ∃ m : Nat, m ≤ 3 ∧ u6 = .int .i64 ((m : Int) + 1) ∧ J (missPre c k ++ upTo has bs m) wj ∧ wj.heap[B]? = some (.cells #[.slice c_gA c.gauges.length c_gc, .int .i64 c.size, .int .i64 c.load, .slice c_bA c.brakes.length c_bc, .slice c_hA c.heats.length c_hc, .bool c.hooks] 28 (0, 0)) ∧
          wj.heap[W.heap.size]? = some (.cells #[.int .i64 0, .int .i64 3, .slice c_gA c.gauges.length c_gc, .int .i64 10, .int .i64 3, .slice c_bA c.brakes.length c_bc, .int .i64 20, .int .i64 3, .slice c_hA c.heats.length c_hc] 118 (0, 0)) ∧
          wj.heap[wo.heap.size]? = some (.cells #[.int .i64 bs, .int .i64 3, .slice A has.length cp] 118 (0, 0)) ∧ CReads wj n0 c c_gA c_bA c_hA c_gc c_bc c_hc ∧ Ints wj n0 A has ∧ n0 ≤ wj.heap.size)
        (fun u6 _ => 4 - (intOf u6).toNat)
      case atStart => exact ⟨0, by omega, rfl, hJ3, hB2, hK2, hT2, hR2, hI2, by simp; omega⟩
      case round =>
        obtain ⟨m, hm, rfl, hJ, hB, hKi, hT, hR, hI, hn⟩ := hrel
        clear hJ3 hB2 hK2 hT2 hR2 hI2
        have y0 : wr.cell? ⟨wo.heap.size, 0, none⟩ = some (.int .i64 bs) := blk_cell hT 0
        have y1 : wr.cell? ⟨wo.heap.size, 1, none⟩ = some (.int .i64 3) := blk_cell hT 1
        have y2 : wr.cell? ⟨wo.heap.size, 2, none⟩ = some (.slice A has.length cp) := blk_cell hT 2
        by_cases hm3 : m < 3
        · have hle : (m : Int) + 1 ≤ 3 := by omega
          have hUl := upTo_length has bs m
          have hCon := HCon.out A cp has ((m : Int) + 1) n0 wr hI (by omega)
          by_cases hin : (m : Int) + 1 ∈ has
          · rw [decide_eq_true hin] at hCon
            have hN : Hid (upTo has bs (m + 1) = upTo has bs m) := upTo_in hin
            have HC := Lib.hid hCon
            have Hst := Lib.hid (And.intro hB (And.intro hKi (And.intro hT (And.intro hR hI))))
            clear hin hCon hB hKi hT hR hI
            gi_wp2_with (gi_at_call 28; refine HC.out.mono ?_; rintro e w1 ⟨rfl, rfl⟩)
            refine ⟨(fun _ h => (by cases h)), ?_⟩
            gi_wp2_with fail
            go_roundw
            case rel =>
              obtain ⟨s1, s2, s3, s4, s5⟩ := Hst.out
              exact ⟨m + 1, by omega, by go_num, by rw [hN.out]; exact hJ, s1, s2, s3, s4, s5, hn⟩
            case measure => simp [intOf]; omega
          · rw [decide_eq_false hin] at hCon
            have hN : Hid (upTo has bs (m + 1) = upTo has bs m ++ [bs + ((m : Int) + 1)]) := upTo_out hin
            have HC := Lib.hid hCon
            have hKp : ∀ W', KpM n0 wr W' → W'.heap[B]? = some (.cells #[.slice c_gA c.gauges.length c_gc, .int .i64 c.size, .int .i64 c.load, .slice c_bA c.brakes.length c_bc, .slice c_hA c.heats.length c_hc, .bool c.hooks] 28 (0, 0)) ∧
                W'.heap[W.heap.size]? = some (.cells #[.int .i64 0, .int .i64 3, .slice c_gA c.gauges.length c_gc, .int .i64 10, .int .i64 3, .slice c_bA c.brakes.length c_bc, .int .i64 20, .int .i64 3, .slice c_hA c.heats.length c_hc] 118 (0, 0)) ∧
                W'.heap[wo.heap.size]? = some (.cells #[.int .i64 bs, .int .i64 3, .slice A has.length cp] 118 (0, 0)) ∧ CReads W' n0 c c_gA c_bA c_hA c_gc c_bc c_hc ∧ Ints W' n0 A has ∧ n0 ≤ W'.heap.size :=
              fun W' hk => ⟨hk.2 _ _ _ _ (.inl rfl) hB, hk.2 _ _ _ _ (.inr rfl) hKi, hk.2 _ _ _ _ (.inr rfl) hT, hR.below hk.1, hI.below hk.1, Nat.le_trans hn hk.1.size⟩
            have HKp := Lib.hid hKp
            obtain ⟨fn, tmps, assign, body, hy, hRd⟩ := HY.out _ (bs + ((m : Int) + 1)) wr hJ (by simp; omega)
            clear hin hCon hB hKi hT hR hI hKp
            gi_wp2_with (gi_at_call 28; refine HC.out.mono ?_; rintro e w1 ⟨rfl, rfl⟩)
            refine hRd.mono ?_
            rintro e W3 (⟨rfl, hJ3, hk3⟩ | ⟨rfl, hJx3⟩)
            · have Hk3 := Lib.hid hk3
              clear hk3
              gi_wp2_with fail
              go_roundw
              case rel =>
                obtain ⟨s1, s2, s3, s4, s5, s6⟩ := HKp.out _ Hk3.out
                exact ⟨m + 1, by omega, by go_num, by rw [hN.out, ← List.append_assoc]; exact hJ3, s1, s2, s3, s4, s5, s6⟩
              case measure => simp [intOf]; omega
            · gi_wp2_with fail
              refine bodyPost_ret (results_none rfl _ _ _) rfl ?_
              exact ⟨⟨_, rfl⟩, .inr ⟨_, trivial, hJx3⟩⟩
        · obtain rfl : m = 3 := by omega
          gi_wp2_with fail
          go_roundw
          case rel => exact ⟨k + 1, by omega, by go_num, by rw [Hpre.out]; exact hJ, hB, hKi, hR, hn⟩
          case measure => simp [intOf]; omega
    · obtain rfl : k = 3 := by omega
      have x5 : wr.cell? ⟨B, 5, none⟩ = some (.bool c.hooks) := blk_cell hB 5
      cases hh : c.hooks
      · rw [hh] at x5
        have hM : Hid (Pl.missing c = missPre c 3 ++ [30]) := by show _ = _; rw [missPre_all, hh]; simp
        have hPl := missPre_length c 3 (by omega)
        obtain ⟨fn, tmps, assign, body, hy, hRd⟩ := HY.out _ 30 wr hJ (by omega)
        clear hh hB hKi hR
        gi_wp2_with fail
        refine hRd.mono ?_
        rintro e W3 (⟨rfl, hJ3, hk3⟩ | ⟨rfl, hJx3⟩)
        · gi_wp2_with fail
          go_end0
          exact ⟨⟨_, rfl⟩, .inl ⟨_, hM.out.symm, hJ3⟩⟩
        · gi_wp2_with fail
          go_end0
          exact ⟨⟨_, rfl⟩, .inr ⟨_, trivial, hJx3⟩⟩
      · rw [hh] at x5
        have hM : Hid (Pl.missing c = missPre c 3) := by show _ = _; rw [missPre_all, hh]; simp
        clear hh hB hKi hR
        gi_wp2_with fail
        go_end0
        exact ⟨⟨_, rfl⟩, .inl ⟨_, hM.out.symm, hJ⟩⟩

/-- missing hands back a value that tells all that the car has not. -/
theorem miss_stops (F : Fence) (n : Nat) (h105 : F.fn 58) (h92 : F.fn 28) (hro : F.round = none) (hn1 : 1 ≤ n)
    (hcon : ∀ (A : Option Addr) (cp : Nat) (xs : List Int) (x : Int) (B : Nat) (w : World), Ints w B A xs → xs.length ≤ 9223372036854775807 → CallsIn F (n - 1) Tryz.prog 28 #[.slice A xs.length cp, .int .i64 x] w fun e w' => e = .returned (.bool (decide (x ∈ xs))) ∧ w = w')
    (B n0 : Nat) (c : Pl.Cch) (c_gA c_bA c_hA : Option Addr) (c_gc c_bc c_hc : Nat) (w : World) (hbox : w.heap[B]? = some (.cells #[.slice c_gA c.gauges.length c_gc, .int .i64 c.size, .int .i64 c.load, .slice c_bA c.brakes.length c_bc, .slice c_hA c.heats.length c_hc, .bool c.hooks] 28 (0, 0))) (hn0 : n0 ≤ w.heap.size) (hr : CReads w n0 c c_gA c_bA c_hA c_gc c_bc c_hc) :
    SeqStopsK F n Tryz.prog 58 #[.pointer (some ⟨B, 0, none⟩)] (fun x : Int => #[Value.int .i64 x]) (KpM n0) (fun ys => ys = Pl.missing c) (fun _ => True) 10 w := fun l J Jx W hW hJ _ hY h0 =>
  miss_in F n h105 h92 hro hn1 hcon l B n0 c c_gA c_bA c_hA c_gc c_bc c_hc J Jx (fun s W o h => hJ s W _ none h (World.grownBy_alloc W o none) (by simp)) hY W (blk_below hbox hW (lt_of_block hbox)) (Nat.le_trans hn0 hW.size) (hr.below (hW.mono hn0)) h0
end Go.Proofs.YtpbjpochjagicaaGreatDoorRR
