/- Walks: a number in a list, and all that a car has not: has and Things of the reference (by gen_things.py). A car that is given things, one behind the other: Given of the reference. -/
import Derived.Test.YtpbjpochjagicaaGreatGv
import Derived.Test.YtpbjpochjagicaaGreatW28
namespace Go.Proofs.YtpbjpochjagicaaGreat
open Go.RowKit

theorem has_any (A : Option Addr) (c : Nat) (xs : List Int) (n : Int) (B : Nat) (w : World) (hx : Ints w B A xs) (hl : xs.length ≤ 9223372036854775807) :
    Calls Tryz.prog 81 #[.slice A xs.length c, .int .i64 n] w fun e w' => e = .returned (.bool (decide (n ∈ xs))) ∧ w = w' := by
  rcases hx.form with rfl | ⟨b, off, rfl, _, hc⟩
  · clear hx
    go_enter Tryz.func81, Tryz.ntmps81
    go_wp2
    go_loop [5] (fun i => i = .int .i64 0) (fun _ => 0)
    case atStart => rfl
    case round =>
      obtain rfl := hrel
      go_wp2
      go_ret
      exact ⟨by simp, rfl⟩
  · clear hx
    generalize hR : decide (n ∈ xs) = R
    have HR := Lib.hid hR
    clear hR
    go_enter Tryz.func81, Tryz.ntmps81
    go_wp2
    go_loop [5] (fun i => ∃ k : Nat, k ≤ xs.length ∧ i = .int .i64 k ∧ Hid (∀ x ∈ xs.take k, x ≠ n)) (fun i => xs.length - (intOf i).toNat)
    case atStart => exact ⟨0, Nat.zero_le _, rfl, fun x hx => by simp at hx⟩
    case round =>
      obtain ⟨k, hk, rfl, hN⟩ := hrel
      by_cases hlt : k < xs.length
      · have hck := hc k hlt
        by_cases he : xs[k] = n
        · have hT : Hid (R = true) := by show _ = _; rw [← HR.out]; exact decide_eq_true (he ▸ List.getElem_mem hlt)
          have hb : (xs[k] == n) = true := by rw [beq_iff_eq]; exact he
          clear he HR hN
          go_wp2
          go_ret
          exact ⟨by rw [hT.out]; rfl, rfl⟩
        · have hN' : Hid (∀ x ∈ xs.take (k + 1), x ≠ n) := by
            show ∀ x ∈ xs.take (k + 1), x ≠ n
            intro x hx
            rw [List.take_add_one, List.getElem?_eq_getElem hlt] at hx
            rcases List.mem_append.1 hx with h | h
            · exact hN.out x h
            · simp at h; subst h; exact he
          have hb : (xs[k] == n) = false := by rw [beq_eq_false_iff_ne]; exact he
          clear he hN
          go_wp2
          go_round
          case rel => exact ⟨k + 1, by omega, by go_num, hN'⟩
          case measure => simp [intOf]; omega
      · have hT : Hid (R = false) := by
          show _ = _
          rw [← HR.out, decide_eq_false_iff_not]
          intro h
          have := hN.out n (by rw [List.take_of_length_le (by omega)]; exact h)
          exact this rfl
        clear hN HR
        go_wp2
        go_ret
        exact ⟨by rw [hT.out]; rfl, rfl⟩

/-- What lacks in a list of the numbers below k, from b on. -/
def lackTo (xs : List Int) (b : Int) (k : Nat) : List Int := (((List.range (k - 1)).map fun j : Nat => (j : Int) + 1).filter fun n => decide (n ∉ xs)).map (b + ·)
theorem lackTo_in {xs : List Int} {b : Int} {k : Nat} (hk : 1 ≤ k) (h : (k : Int) ∉ xs) : lackTo xs b (k + 1) = lackTo xs b k ++ [b + k] := by
  obtain ⟨j, rfl⟩ : ∃ j, k = j + 1 := ⟨k - 1, by omega⟩
  have e : ((j : Int) + 1) ∉ xs := by simpa using h
  unfold lackTo
  simp only [Nat.add_sub_cancel, List.range_succ, List.map_append, List.filter_append, List.map_cons, List.map_nil]
  simp [e]
theorem lackTo_out {xs : List Int} {b : Int} {k : Nat} (hk : 1 ≤ k) (h : (k : Int) ∈ xs) : lackTo xs b (k + 1) = lackTo xs b k := by
  obtain ⟨j, rfl⟩ : ∃ j, k = j + 1 := ⟨k - 1, by omega⟩
  have e : ((j : Int) + 1) ∈ xs := by simpa using h
  unfold lackTo
  simp only [Nat.add_sub_cancel, List.range_succ, List.map_append, List.filter_append, List.map_cons, List.map_nil]
  simp [e]
theorem lackTo_len (xs : List Int) (b : Int) (k : Nat) : (lackTo xs b k).length ≤ k - 1 := by
  unfold lackTo
  rw [List.length_map]
  exact Nat.le_trans (List.length_filter_le _ _) (by simp)
theorem lackTo_four (xs : List Int) (b : Int) : lackTo xs b 4 = ([1, 2, 3].filter fun n => decide (n ∉ xs)).map (b + ·) := rfl
theorem missing_parts (c : Pl.Cch) : Pl.missing c = lackTo c.gauges 0 4 ++ lackTo c.brakes 10 4 ++ lackTo c.heats 20 4 ++ (if c.hooks then [] else [30]) := by
  rw [lackTo_four, lackTo_four, lackTo_four]
  have : ∀ l : List Int, l.map (fun x => 0 + x) = l := fun l => by simp
  rw [this]
  rfl

set_option maxRecDepth 20000 in
set_option maxHeartbeats 4000000 in
theorem things_any (c : Pl.Cch) (c_gA c_bA c_hA : Option Addr) (c_gc c_bc c_hc : Nat) (w : World) (hr : CReads w w.heap.size c c_gA c_bA c_hA c_gc c_bc c_hc) : Calls Tryz.prog 44 #[.agg #[.slice c_gA c.gauges.length c_gc, .int .i64 c.size, .int .i64 c.load, .slice c_bA c.brakes.length c_bc, .slice c_hA c.heats.length c_hc, .bool c.hooks]] w (PutPost (Pl.missing c) w) := by
  have HRD := Lib.hid hr
  have HM := Lib.hid (missing_parts c)
  have hlg := hr.lenG
  have hlb := hr.lenB
  have hlh := hr.lenH
  clear hr
  generalize hR : Pl.missing c = R
  have HR := Lib.hid (hR.symm.trans HM.out)
  clear hR HM
  have hbx : (w.alloc (.cells #[.slice c_gA c.gauges.length c_gc, .int .i64 c.size, .int .i64 c.load, .slice c_bA c.brakes.length c_bc, .slice c_hA c.heats.length c_hc, .bool c.hooks] 27)).heap[w.heap.size]? = some (.cells #[.slice c_gA c.gauges.length c_gc, .int .i64 c.size, .int .i64 c.load, .slice c_bA c.brakes.length c_bc, .slice c_hA c.heats.length c_hc, .bool c.hooks] 27 (0, 0)) := heap_alloc_new w _
  have hb0 : Below w.heap.size w (w.alloc (.cells #[.slice c_gA c.gauges.length c_gc, .int .i64 c.size, .int .i64 c.load, .slice c_bA c.brakes.length c_bc, .slice c_hA c.heats.length c_hc, .bool c.hooks] 27)) := (Below.refl _ _).alloc (Nat.le_refl _) _
  have hs0 : (w.alloc (.cells #[.slice c_gA c.gauges.length c_gc, .int .i64 c.size, .int .i64 c.load, .slice c_bA c.brakes.length c_bc, .slice c_hA c.heats.length c_hc, .bool c.hooks] 27)).heap.size = w.heap.size + 1 := by simp
  go_enter Tryz.func44, Tryz.ntmps44
  go_wp2_with fail
  generalize w.alloc (.cells #[.slice c_gA c.gauges.length c_gc, .int .i64 c.size, .int .i64 c.load, .slice c_bA c.brakes.length c_bc, .slice c_hA c.heats.length c_hc, .bool c.hooks] 27) = w0 at hbx hb0 hs0 ⊢
  have HBX := Lib.hid hbx
  have HB0 := Lib.hid hb0
  have HS0 := Lib.hid hs0
  clear hbx hb0 hs0
  go_loopw [3, 4] (fun v gv wr => ∃ (k : Nat) (A2 : Option Addr) (c2 : Nat), 1 ≤ k ∧ k ≤ 4 ∧ v = .slice A2 (lackTo c.gauges 0 k).length c2 ∧ gv = .int .i64 k ∧ Hid (OwnInts wr w0.heap.size A2 c2 (lackTo c.gauges 0 k)) ∧ Hid (Below w0.heap.size w0 wr)) (fun _ i _ => 4 - (intOf i).toNat)
  case atStart => exact ⟨1, none, 0, by omega, by omega, rfl, rfl, OwnInts.nil _ _, Below.refl _ _⟩
  case round =>
    obtain ⟨k, A2, c2, hk1, hk4, rfl, rfl, hO, hB⟩ := hrel
    have hsr := hB.out.size
    have hll := lackTo_len c.gauges 0 k
    have hxr : wr.heap[w.heap.size]? = some (.cells #[.slice c_gA c.gauges.length c_gc, .int .i64 c.size, .int .i64 c.load, .slice c_bA c.brakes.length c_bc, .slice c_hA c.heats.length c_hc, .bool c.hooks] 27 (0, 0)) := blk_below HBX.out hB.out (by have := HS0.out; omega)
    by_cases hkl : k < 4
    · have hki : (k : Int) ≤ 3 := by omega
      have x0 : wr.cell? ⟨w.heap.size, 0, none⟩ = some (.slice c_gA c.gauges.length c_gc) := blk_cell hxr 0
      have HI : Hid (Ints wr wr.heap.size c_gA c.gauges) := (HRD.out.below (HB0.out.trans (hB.out.mono (by have := HS0.out; omega)))).gauges.more (by have := HS0.out; omega)
      by_cases hin : (k : Int) ∈ c.gauges
      · have HNS := Lib.hid (lackTo_out (b := 0) hk1 hin)
        have hd : decide ((k : Int) ∈ c.gauges) = true := decide_eq_true hin
        clear hin
        go_wp2_with fail
        refine (has_any c_gA c_gc c.gauges k _ wr HI.out (by omega)).mono ?_
        rintro e w' ⟨rfl, rfl⟩
        rw [hd]
        clear hd
        go_wp2_with fail
        go_roundw
        case rel => exact ⟨k + 1, A2, c2, by omega, by omega, by first | (rw [HNS.out]; done) | (rw [HNS.out]; simp), by go_num, (by show OwnInts _ _ _ _ _; rw [HNS.out]; exact hO.out), hB⟩
        case measure => simp [intOf]; omega
      · have HNS := Lib.hid (lackTo_in (b := 0) hk1 hin)
        have hd : decide ((k : Int) ∈ c.gauges) = false := decide_eq_false hin
        clear hin
        obtain ⟨zs, hzs⟩ : ∃ zs, zs = lackTo c.gauges 0 k := ⟨_, rfl⟩
        have HNZ : Hid (lackTo c.gauges 0 (k + 1) = zs ++ [0 + (k : Int)]) := by show _ = _; first | (rw [HNS.out, hzs]; done) | (rw [HNS.out, hzs]; simp)
        rw [← hzs] at hO ⊢
        have hzl : zs.length ≤ 20 := by
          rw [hzs]
          try simp only [List.length_append]
          omega
        have HZL := Lib.hid hzl
        clear hzs hzl
        go_wp2_with fail
        refine (has_any c_gA c_gc c.gauges k _ wr HI.out (by omega)).mono ?_
        rintro e w' ⟨rfl, rfl⟩
        rw [hd]
        clear hd
        go_wp2_with (at_builtin; refine wpl_app_ints rfl (.tmp 16) (.tmp 18) 23 rfl w0.heap.size Tryz.underlying23 int_info A2 c2 zs rfl (own_alloc hO.out _) (wr.heap.size + 1) (some ⟨wr.heap.size, 0, none⟩) 1 [(k : Int)] rfl (ints_one _ _ _ (by simp) (by omega)) (by have := HZL.out; simp; omega) (by simp; omega) ?_; intro A3 c3 w4 hown4 hg4 hat4; have HO4 := Lib.hid hown4; have HB4 := Lib.hid ((hB.out.alloc hsr (.cells #[.int .i64 ((k : Int))] 3)).grown hg4 (by simp; omega) (own_from hO.out)); clear hown4 hg4 hat4)
        go_roundw
        case rel => exact ⟨k + 1, A3, c3, by omega, by omega, by first | (rw [HNZ.out]; done) | (rw [HNZ.out]; simp), by go_num, (by show OwnInts _ _ _ _ _; rw [HNZ.out]; simpa using HO4.out), HB4⟩
        case measure => simp [intOf]; omega
    · obtain rfl : k = 4 := by omega
      clear hkl hk1 hk4 hll hxr
      rw [show ((4 : Nat) : Int) = 4 from rfl]
      go_wp2_with fail
      go_loopw [3, 5] (fun v gv wr => ∃ (k : Nat) (A2 : Option Addr) (c2 : Nat), 1 ≤ k ∧ k ≤ 4 ∧ v = .slice A2 (lackTo c.gauges 0 4 ++ lackTo c.brakes 10 k).length c2 ∧ gv = .int .i64 k ∧ Hid (OwnInts wr w0.heap.size A2 c2 (lackTo c.gauges 0 4 ++ lackTo c.brakes 10 k)) ∧ Hid (Below w0.heap.size w0 wr)) (fun _ i _ => 4 - (intOf i).toNat)
      case atStart => exact ⟨1, A2, c2, by omega, by omega, by rw [show lackTo c.brakes 10 1 = [] from rfl, List.append_nil], rfl, (by show OwnInts _ _ _ _ _; rw [show lackTo c.brakes 10 1 = [] from rfl, List.append_nil]; exact hO.out), hB⟩
      case round =>
        obtain ⟨k, A2, c2, hk1, hk4, rfl, rfl, hO, hB⟩ := hrel
        have hsr := hB.out.size
        have hll := lackTo_len c.brakes 10 k
        have hxr : wr.heap[w.heap.size]? = some (.cells #[.slice c_gA c.gauges.length c_gc, .int .i64 c.size, .int .i64 c.load, .slice c_bA c.brakes.length c_bc, .slice c_hA c.heats.length c_hc, .bool c.hooks] 27 (0, 0)) := blk_below HBX.out hB.out (by have := HS0.out; omega)
        by_cases hkl : k < 4
        · have hki : (k : Int) ≤ 3 := by omega
          have x0 : wr.cell? ⟨w.heap.size, 3, none⟩ = some (.slice c_bA c.brakes.length c_bc) := blk_cell hxr 3
          have HI : Hid (Ints wr wr.heap.size c_bA c.brakes) := (HRD.out.below (HB0.out.trans (hB.out.mono (by have := HS0.out; omega)))).brakes.more (by have := HS0.out; omega)
          by_cases hin : (k : Int) ∈ c.brakes
          · have HNS := Lib.hid (lackTo_out (b := 10) hk1 hin)
            have hd : decide ((k : Int) ∈ c.brakes) = true := decide_eq_true hin
            clear hin
            go_wp2_with fail
            refine (has_any c_bA c_bc c.brakes k _ wr HI.out (by omega)).mono ?_
            rintro e w' ⟨rfl, rfl⟩
            rw [hd]
            clear hd
            go_wp2_with fail
            go_roundw
            case rel => exact ⟨k + 1, A2, c2, by omega, by omega, by first | (rw [HNS.out]; done) | (rw [HNS.out]; simp), by go_num, (by show OwnInts _ _ _ _ _; rw [HNS.out]; exact hO.out), hB⟩
            case measure => simp [intOf]; omega
          · have HNS := Lib.hid (lackTo_in (b := 10) hk1 hin)
            have hd : decide ((k : Int) ∈ c.brakes) = false := decide_eq_false hin
            clear hin
            obtain ⟨zs, hzs⟩ : ∃ zs, zs = lackTo c.gauges 0 4 ++ lackTo c.brakes 10 k := ⟨_, rfl⟩
            have HNZ : Hid (lackTo c.gauges 0 4 ++ lackTo c.brakes 10 (k + 1) = zs ++ [10 + (k : Int)]) := by show _ = _; first | (rw [HNS.out, hzs]; done) | (rw [HNS.out, hzs]; simp)
            rw [← hzs] at hO ⊢
            have hzl : zs.length ≤ 20 := by
              rw [hzs]
              have := lackTo_len c.gauges 0 4
              try simp only [List.length_append]
              omega
            have HZL := Lib.hid hzl
            clear hzs hzl
            go_wp2_with fail
            refine (has_any c_bA c_bc c.brakes k _ wr HI.out (by omega)).mono ?_
            rintro e w' ⟨rfl, rfl⟩
            rw [hd]
            clear hd
            go_wp2_with (at_builtin; refine wpl_app_ints rfl (.tmp 29) (.tmp 32) 23 rfl w0.heap.size Tryz.underlying23 int_info A2 c2 zs rfl (own_alloc hO.out _) (wr.heap.size + 1) (some ⟨wr.heap.size, 0, none⟩) 1 [10 + (k : Int)] rfl (ints_one _ _ _ (by simp) (by omega)) (by have := HZL.out; simp; omega) (by simp; omega) ?_; intro A3 c3 w4 hown4 hg4 hat4; have HO4 := Lib.hid hown4; have HB4 := Lib.hid ((hB.out.alloc hsr (.cells #[.int .i64 (10 + (k : Int))] 3)).grown hg4 (by simp; omega) (own_from hO.out)); clear hown4 hg4 hat4)
            go_roundw
            case rel => exact ⟨k + 1, A3, c3, by omega, by omega, by first | (rw [HNZ.out]; done) | (rw [HNZ.out]; simp), by go_num, (by show OwnInts _ _ _ _ _; rw [HNZ.out]; exact HO4.out), HB4⟩
            case measure => simp [intOf]; omega
        · obtain rfl : k = 4 := by omega
          clear hkl hk1 hk4 hll hxr
          rw [show ((4 : Nat) : Int) = 4 from rfl]
          go_wp2_with fail
          go_loopw [3, 6] (fun v gv wr => ∃ (k : Nat) (A2 : Option Addr) (c2 : Nat), 1 ≤ k ∧ k ≤ 4 ∧ v = .slice A2 (lackTo c.gauges 0 4 ++ lackTo c.brakes 10 4 ++ lackTo c.heats 20 k).length c2 ∧ gv = .int .i64 k ∧ Hid (OwnInts wr w0.heap.size A2 c2 (lackTo c.gauges 0 4 ++ lackTo c.brakes 10 4 ++ lackTo c.heats 20 k)) ∧ Hid (Below w0.heap.size w0 wr)) (fun _ i _ => 4 - (intOf i).toNat)
          case atStart => exact ⟨1, A2, c2, by omega, by omega, by rw [show lackTo c.heats 20 1 = [] from rfl, List.append_nil], rfl, (by show OwnInts _ _ _ _ _; rw [show lackTo c.heats 20 1 = [] from rfl, List.append_nil]; exact hO.out), hB⟩
          case round =>
            obtain ⟨k, A2, c2, hk1, hk4, rfl, rfl, hO, hB⟩ := hrel
            have hsr := hB.out.size
            have hll := lackTo_len c.heats 20 k
            have hxr : wr.heap[w.heap.size]? = some (.cells #[.slice c_gA c.gauges.length c_gc, .int .i64 c.size, .int .i64 c.load, .slice c_bA c.brakes.length c_bc, .slice c_hA c.heats.length c_hc, .bool c.hooks] 27 (0, 0)) := blk_below HBX.out hB.out (by have := HS0.out; omega)
            by_cases hkl : k < 4
            · have hki : (k : Int) ≤ 3 := by omega
              have x0 : wr.cell? ⟨w.heap.size, 4, none⟩ = some (.slice c_hA c.heats.length c_hc) := blk_cell hxr 4
              have HI : Hid (Ints wr wr.heap.size c_hA c.heats) := (HRD.out.below (HB0.out.trans (hB.out.mono (by have := HS0.out; omega)))).heats.more (by have := HS0.out; omega)
              by_cases hin : (k : Int) ∈ c.heats
              · have HNS := Lib.hid (lackTo_out (b := 20) hk1 hin)
                have hd : decide ((k : Int) ∈ c.heats) = true := decide_eq_true hin
                clear hin
                go_wp2_with fail
                refine (has_any c_hA c_hc c.heats k _ wr HI.out (by omega)).mono ?_
                rintro e w' ⟨rfl, rfl⟩
                rw [hd]
                clear hd
                go_wp2_with fail
                go_roundw
                case rel => exact ⟨k + 1, A2, c2, by omega, by omega, by first | (rw [HNS.out]; done) | (rw [HNS.out]; simp), by go_num, (by show OwnInts _ _ _ _ _; rw [HNS.out]; exact hO.out), hB⟩
                case measure => simp [intOf]; omega
              · have HNS := Lib.hid (lackTo_in (b := 20) hk1 hin)
                have hd : decide ((k : Int) ∈ c.heats) = false := decide_eq_false hin
                clear hin
                obtain ⟨zs, hzs⟩ : ∃ zs, zs = lackTo c.gauges 0 4 ++ lackTo c.brakes 10 4 ++ lackTo c.heats 20 k := ⟨_, rfl⟩
                have HNZ : Hid (lackTo c.gauges 0 4 ++ lackTo c.brakes 10 4 ++ lackTo c.heats 20 (k + 1) = zs ++ [20 + (k : Int)]) := by show _ = _; first | (rw [HNS.out, hzs]; done) | (rw [HNS.out, hzs]; simp)
                rw [← hzs] at hO ⊢
                have hzl : zs.length ≤ 20 := by
                  rw [hzs]
                  have := lackTo_len c.gauges 0 4
                  have := lackTo_len c.brakes 10 4
                  try simp only [List.length_append]
                  omega
                have HZL := Lib.hid hzl
                clear hzs hzl
                go_wp2_with fail
                refine (has_any c_hA c_hc c.heats k _ wr HI.out (by omega)).mono ?_
                rintro e w' ⟨rfl, rfl⟩
                rw [hd]
                clear hd
                go_wp2_with (at_builtin; refine wpl_app_ints rfl (.tmp 43) (.tmp 46) 23 rfl w0.heap.size Tryz.underlying23 int_info A2 c2 zs rfl (own_alloc hO.out _) (wr.heap.size + 1) (some ⟨wr.heap.size, 0, none⟩) 1 [20 + (k : Int)] rfl (ints_one _ _ _ (by simp) (by omega)) (by have := HZL.out; simp; omega) (by simp; omega) ?_; intro A3 c3 w4 hown4 hg4 hat4; have HO4 := Lib.hid hown4; have HB4 := Lib.hid ((hB.out.alloc hsr (.cells #[.int .i64 (20 + (k : Int))] 3)).grown hg4 (by simp; omega) (own_from hO.out)); clear hown4 hg4 hat4)
                go_roundw
                case rel => exact ⟨k + 1, A3, c3, by omega, by omega, by first | (rw [HNZ.out]; done) | (rw [HNZ.out]; simp), by go_num, (by show OwnInts _ _ _ _ _; rw [HNZ.out]; exact HO4.out), HB4⟩
                case measure => simp [intOf]; omega
            · obtain rfl : k = 4 := by omega
              have x5 : wr.cell? ⟨w.heap.size, 5, none⟩ = some (.bool c.hooks) := blk_cell hxr 5
              clear hkl hk1 hk4 hll hxr
              rw [show ((4 : Nat) : Int) = 4 from rfl]
              have l1 := lackTo_len c.gauges 0 4
              have l2 := lackTo_len c.brakes 10 4
              have l3 := lackTo_len c.heats 20 4
              obtain ⟨zs, hzs⟩ : ∃ zs, zs = lackTo c.gauges 0 4 ++ lackTo c.brakes 10 4 ++ lackTo c.heats 20 4 := ⟨_, rfl⟩
              have hzl : zs.length ≤ 20 := by rw [hzs]; simp only [List.length_append]; omega
              have HZL := Lib.hid hzl
              have HRZ := HR
              rw [← hzs] at hO HRZ ⊢
              clear hzs hzl l1 l2 l3 HR
              have HBW := Lib.hid (HB0.out.trans (hB.out.mono HB0.out.size))
              have hs1 := HS0.out
              cases hh : c.hooks
              · rw [hh] at x5 HRZ
                clear hh
                go_wp2_with (at_builtin; refine wpl_app_ints rfl (.tmp 51) (.tmp 52) 23 rfl w0.heap.size Tryz.underlying23 int_info A2 c2 zs rfl (own_alloc hO.out _) (wr.heap.size + 1) (some ⟨wr.heap.size, 0, none⟩) 1 [30] rfl (ints_one _ _ _ (by simp) (by omega)) (by have := HZL.out; simp; omega) (by simp; omega) ?_; intro A3 c3 w4 hown4 hg4 hat4; have HO4 := Lib.hid hown4; have HB4 := Lib.hid ((hB.out.alloc hsr (.cells #[.int .i64 30] 3)).grown hg4 (by simp; omega) (own_from hO.out)); clear hown4 hg4 hat4)
                go_ret
                have hRe : R = zs ++ [30] := HRZ.out
                subst hRe
                exact ⟨A3, c3, by simp, own_weaken (base := w.heap.size) HO4.out HB0.out.size, HB0.out.trans (HB4.out.mono HB0.out.size)⟩
              · rw [hh] at x5 HRZ
                clear hh
                go_wp2_with fail
                go_ret
                have hRe : R = zs := by rw [HRZ.out]; simp
                subst hRe
                exact ⟨A2, c2, rfl, own_weaken (base := w.heap.size) hO.out HB0.out.size, HBW.out⟩
end Go.Proofs.YtpbjpochjagicaaGreat

namespace Go.Proofs.YtpbjpochjagicaaGreat
open Go.RowKit

def GvS (Q b : Nat) : Prop := b = Q ∨ b = Q + 1
/-- The car in its box, some things given; the result's box. -/
structure GivSt (Q : Nat) (w wr : World) (d : Pl.Cch) (d_gA d_bA d_hA : Option Addr) (d_gc d_bc d_hc : Nat) : Prop where
  box : wr.heap[Q]? = some (.cells #[.slice d_gA d.gauges.length d_gc, .int .i64 d.size, .int .i64 d.load, .slice d_bA d.brakes.length d_bc, .slice d_hA d.heats.length d_hc, .bool d.hooks] 27 (0, 0))
  res : wr.heap[Q + 1]? = some (.cells #[.slice none 0 0, .int .i64 0, .int .i64 0, .slice none 0 0, .slice none 0 0, .bool false] 27 (0, 0))
  g : IntsN wr (GvS Q) d_gA d.gauges
  b : IntsN wr (GvS Q) d_bA d.brakes
  h : IntsN wr (GvS Q) d_hA d.heats
  bel : Below Q w wr
section
variable {Q : Nat} {w wr w' : World} {d : Pl.Cch} {d_gA d_bA d_hA : Option Addr} {d_gc d_bc d_hc : Nat}
theorem GivSt.size (s : GivSt Q w wr d d_gA d_bA d_hA d_gc d_bc d_hc) : Q + 2 ≤ wr.heap.size := lt_of_block s.res
theorem GivSt.below (s : GivSt Q w wr d d_gA d_bA d_hA d_gc d_bc d_hc) (hb : Below wr.heap.size wr w') : GivSt Q w w' d d_gA d_bA d_hA d_gc d_bc d_hc := by
  have hs := s.size
  have hk : ∀ b, b < wr.heap.size → ¬ GvS Q b → ¬ GvS Q b ∧ w'.heap[b]? = wr.heap[b]? := fun b h1 h2 => ⟨h2, hb.block b h1⟩
  exact ⟨blk_below s.box hb (by omega), blk_below s.res hb (by omega), s.g.keep hk, s.b.keep hk, s.h.keep hk, s.bel.trans (hb.mono (by omega))⟩
theorem GivSt.keepSet (_s : GivSt Q w wr d d_gA d_bA d_hA d_gc d_bc d_hc) (i : Nat) (v : Value) : ∀ b, b < wr.heap.size → ¬ GvS Q b → ¬ GvS Q b ∧ (wr.setCell ⟨Q, i, none⟩ v).heap[b]? = wr.heap[b]? :=
  fun _b _ h2 => ⟨h2, Below.heap_setCell _ _ _ _ (fun e => h2 (.inl e))⟩
theorem GivSt.resSet (s : GivSt Q w wr d d_gA d_bA d_hA d_gc d_bc d_hc) (i : Nat) (v : Value) : (wr.setCell ⟨Q, i, none⟩ v).heap[Q + 1]? = some (.cells #[.slice none 0 0, .int .i64 0, .int .i64 0, .slice none 0 0, .slice none 0 0, .bool false] 27 (0, 0)) :=
  (Below.heap_setCell _ _ _ _ (by simp)).trans s.res
theorem GivSt.hooks (s : GivSt Q w wr d d_gA d_bA d_hA d_gc d_bc d_hc) : GivSt Q w (wr.setCell ⟨Q, 5, none⟩ (.bool true)) { d with hooks := true } d_gA d_bA d_hA d_gc d_bc d_hc :=
  ⟨by have := blk_set (i := 5) s.box (.bool true); simpa using this, s.resSet _ _, s.g.keep (s.keepSet _ _), s.b.keep (s.keepSet _ _), s.h.keep (s.keepSet _ _), s.bel.setCell (Nat.le_refl _) _⟩
theorem GivSt.heats (s : GivSt Q w wr d d_gA d_bA d_hA d_gc d_bc d_hc) {A : Option Addr} {k : Nat} {l : List Int} (hl : IntsN wr (GvS Q) A l) : GivSt Q w (wr.setCell ⟨Q, 4, none⟩ (.slice A l.length k)) { d with heats := l } d_gA d_bA A d_gc d_bc k :=
  ⟨by have := blk_set (i := 4) s.box (.slice A l.length k); simpa using this, s.resSet _ _, s.g.keep (s.keepSet _ _), s.b.keep (s.keepSet _ _), hl.keep (s.keepSet _ _), s.bel.setCell (Nat.le_refl _) _⟩
theorem GivSt.brakes (s : GivSt Q w wr d d_gA d_bA d_hA d_gc d_bc d_hc) {A : Option Addr} {k : Nat} {l : List Int} (hl : IntsN wr (GvS Q) A l) : GivSt Q w (wr.setCell ⟨Q, 3, none⟩ (.slice A l.length k)) { d with brakes := l } d_gA A d_hA d_gc k d_hc :=
  ⟨by have := blk_set (i := 3) s.box (.slice A l.length k); simpa using this, s.resSet _ _, s.g.keep (s.keepSet _ _), hl.keep (s.keepSet _ _), s.h.keep (s.keepSet _ _), s.bel.setCell (Nat.le_refl _) _⟩
theorem GivSt.gauges (s : GivSt Q w wr d d_gA d_bA d_hA d_gc d_bc d_hc) {A : Option Addr} {k : Nat} {l : List Int} (hl : IntsN wr (GvS Q) A l) : GivSt Q w (wr.setCell ⟨Q, 0, none⟩ (.slice A l.length k)) { d with gauges := l } A d_bA d_hA k d_bc d_hc :=
  ⟨by have := blk_set (i := 0) s.box (.slice A l.length k); simpa using this, s.resSet _ _, hl.keep (s.keepSet _ _), s.b.keep (s.keepSet _ _), s.h.keep (s.keepSet _ _), s.bel.setCell (Nat.le_refl _) _⟩
theorem GivSt.cells (s : GivSt Q w wr d d_gA d_bA d_hA d_gc d_bc d_hc) : (wr.cell? ⟨Q, 0, none⟩ = some (.slice d_gA d.gauges.length d_gc) ∧ wr.cell? ⟨Q, 1, none⟩ = some (.int .i64 d.size) ∧ wr.cell? ⟨Q, 2, none⟩ = some (.int .i64 d.load) ∧
    wr.cell? ⟨Q, 3, none⟩ = some (.slice d_bA d.brakes.length d_bc) ∧ wr.cell? ⟨Q, 4, none⟩ = some (.slice d_hA d.heats.length d_hc) ∧ wr.cell? ⟨Q, 5, none⟩ = some (.bool d.hooks)) :=
  ⟨blk_cell s.box 0, blk_cell s.box 1, blk_cell s.box 2, blk_cell s.box 3, blk_cell s.box 4, blk_cell s.box 5⟩
theorem GivSt.frozen (s : GivSt Q w wr d d_gA d_bA d_hA d_gc d_bc d_hc) (i : Nat) : wr.frozen? ⟨Q, i, none⟩ = false := blk_frozen s.box i
theorem GivSt.zeros (s : GivSt Q w wr d d_gA d_bA d_hA d_gc d_bc d_hc) : (wr.cell? ⟨Q + 1, 0, none⟩ = some (.slice none 0 0) ∧ wr.cell? ⟨Q + 1, 1, none⟩ = some (.int .i64 0) ∧ wr.cell? ⟨Q + 1, 2, none⟩ = some (.int .i64 0) ∧
    wr.cell? ⟨Q + 1, 3, none⟩ = some (.slice none 0 0) ∧ wr.cell? ⟨Q + 1, 4, none⟩ = some (.slice none 0 0) ∧ wr.cell? ⟨Q + 1, 5, none⟩ = some (.bool false)) ∧
    (wr.frozen? ⟨Q + 1, 0, none⟩ = false ∧ wr.frozen? ⟨Q + 1, 1, none⟩ = false ∧ wr.frozen? ⟨Q + 1, 2, none⟩ = false ∧ wr.frozen? ⟨Q + 1, 3, none⟩ = false ∧ wr.frozen? ⟨Q + 1, 4, none⟩ = false ∧ wr.frozen? ⟨Q + 1, 5, none⟩ = false) :=
  ⟨⟨blk_cell s.res 0, blk_cell s.res 1, blk_cell s.res 2, blk_cell s.res 3, blk_cell s.res 4, blk_cell s.res 5⟩, blk_frozen s.res 0, blk_frozen s.res 1, blk_frozen s.res 2, blk_frozen s.res 3, blk_frozen s.res 4, blk_frozen s.res 5⟩
theorem GivSt.fin (s : GivSt Q w wr d d_gA d_bA d_hA d_gc d_bc d_hc) (v0 v1 v2 v3 v4 v5 : Value) : Ints ((((((wr.setCell ⟨Q + 1, 0, none⟩ v0).setCell ⟨Q + 1, 1, none⟩ v1).setCell ⟨Q + 1, 2, none⟩ v2).setCell ⟨Q + 1, 3, none⟩ v3).setCell ⟨Q + 1, 4, none⟩ v4).setCell ⟨Q + 1, 5, none⟩ v5) wr.heap.size d_gA d.gauges ∧
    Ints ((((((wr.setCell ⟨Q + 1, 0, none⟩ v0).setCell ⟨Q + 1, 1, none⟩ v1).setCell ⟨Q + 1, 2, none⟩ v2).setCell ⟨Q + 1, 3, none⟩ v3).setCell ⟨Q + 1, 4, none⟩ v4).setCell ⟨Q + 1, 5, none⟩ v5) wr.heap.size d_bA d.brakes ∧
    Ints ((((((wr.setCell ⟨Q + 1, 0, none⟩ v0).setCell ⟨Q + 1, 1, none⟩ v1).setCell ⟨Q + 1, 2, none⟩ v2).setCell ⟨Q + 1, 3, none⟩ v3).setCell ⟨Q + 1, 4, none⟩ v4).setCell ⟨Q + 1, 5, none⟩ v5) wr.heap.size d_hA d.heats ∧
    Below Q w ((((((wr.setCell ⟨Q + 1, 0, none⟩ v0).setCell ⟨Q + 1, 1, none⟩ v1).setCell ⟨Q + 1, 2, none⟩ v2).setCell ⟨Q + 1, 3, none⟩ v3).setCell ⟨Q + 1, 4, none⟩ v4).setCell ⟨Q + 1, 5, none⟩ v5) := by
  have hk : ∀ b, b < wr.heap.size → ¬ GvS Q b → ¬ GvS Q b ∧ ((((((wr.setCell ⟨Q + 1, 0, none⟩ v0).setCell ⟨Q + 1, 1, none⟩ v1).setCell ⟨Q + 1, 2, none⟩ v2).setCell ⟨Q + 1, 3, none⟩ v3).setCell ⟨Q + 1, 4, none⟩ v4).setCell ⟨Q + 1, 5, none⟩ v5).heap[b]? = wr.heap[b]? := by
    intro b _ h2
    refine ⟨h2, ?_⟩
    have hn : b ≠ Q + 1 := fun e => h2 (.inr e)
    rw [Below.heap_setCell _ _ _ _ hn, Below.heap_setCell _ _ _ _ hn, Below.heap_setCell _ _ _ _ hn, Below.heap_setCell _ _ _ _ hn, Below.heap_setCell _ _ _ _ hn, Below.heap_setCell _ _ _ _ hn]
  have f : ∀ {A : Option Addr} {l : List Int}, IntsN wr (GvS Q) A l → Ints ((((((wr.setCell ⟨Q + 1, 0, none⟩ v0).setCell ⟨Q + 1, 1, none⟩ v1).setCell ⟨Q + 1, 2, none⟩ v2).setCell ⟨Q + 1, 3, none⟩ v3).setCell ⟨Q + 1, 4, none⟩ v4).setCell ⟨Q + 1, 5, none⟩ v5) wr.heap.size A l := fun h => by
    have := (h.keep hk).ints
    simpa using this
  exact ⟨f s.g, f s.b, f s.h, (((((s.bel.setCell (Nat.le_succ _) _).setCell (Nat.le_succ _) _).setCell (Nat.le_succ _) _).setCell (Nat.le_succ _) _).setCell (Nat.le_succ _) _).setCell (Nat.le_succ _) _⟩
end
theorem putL_length (xs : List Int) (n : Int) : (putL xs n).length ≤ xs.length + 1 := by
  unfold putL
  induction xs with
  | nil => simp
  | cons x l ih =>
    simp only [List.filter_cons, List.length_append, List.length_cons, List.length_nil] at ih ⊢
    by_cases h1 : x < n
    · have h2 : ¬ n < x := by omega
      simp [h1, h2]; omega
    · by_cases h2 : n < x
      · simp [h1, h2]; omega
      · simp [h1, h2]; omega
theorem givenP_take {c : Pl.Cch} {ts : List Int} {k : Nat} (h : k < ts.length) : givenP c (ts.take (k + 1)) = giveP (givenP c (ts.take k)) ts[k] := by
  unfold givenP
  rw [List.take_add_one, List.getElem?_eq_getElem h, List.foldl_append]
  rfl
def GivPost (d : Pl.Cch) (w : World) (e : Ending) (w' : World) : Prop := ∃ (d_gA d_bA d_hA : Option Addr) (d_gc d_bc d_hc : Nat), e = .returned (.agg #[.slice d_gA d.gauges.length d_gc, .int .i64 d.size, .int .i64 d.load, .slice d_bA d.brakes.length d_bc, .slice d_hA d.heats.length d_hc, .bool d.hooks]) ∧ CReads w' w'.heap.size d d_gA d_bA d_hA d_gc d_bc d_hc ∧ Below w.heap.size w w'
def Few (d : Pl.Cch) (k : Nat) : Prop := d.gauges.length ≤ 100 + k ∧ d.brakes.length ≤ 100 + k ∧ d.heats.length ≤ 100 + k

set_option maxRecDepth 20000 in
set_option maxHeartbeats 4000000 in
theorem givenP_any (c : Pl.Cch) (c_gA c_bA c_hA : Option Addr) (c_gc c_bc c_hc : Nat) (A : Option Addr) (cp : Nat) (ts : List Int) (w : World) (hr : CReads w w.heap.size c c_gA c_bA c_hA c_gc c_bc c_hc) (hx : Ints w w.heap.size A ts) (hl : ts.length ≤ 50) (hF : Few c 0) (h30 : ∀ x ∈ ts, 0 ≤ x ∧ x ≤ 30) :
    Calls Tryz.prog 46 #[.agg #[.slice c_gA c.gauges.length c_gc, .int .i64 c.size, .int .i64 c.load, .slice c_bA c.brakes.length c_bc, .slice c_hA c.heats.length c_hc, .bool c.hooks], .slice A ts.length cp] w (GivPost (givenP c ts) w) := by
  have HX := Lib.hid hx
  have hs0 : GivSt w.heap.size w ((w.alloc (.cells #[.slice c_gA c.gauges.length c_gc, .int .i64 c.size, .int .i64 c.load, .slice c_bA c.brakes.length c_bc, .slice c_hA c.heats.length c_hc, .bool c.hooks] 27)).alloc (.cells #[.slice none 0 0, .int .i64 0, .int .i64 0, .slice none 0 0, .slice none 0 0, .bool false] 27)) c c_gA c_bA c_hA c_gc c_bc c_hc := by
    have hb : Below w.heap.size w ((w.alloc (.cells #[.slice c_gA c.gauges.length c_gc, .int .i64 c.size, .int .i64 c.load, .slice c_bA c.brakes.length c_bc, .slice c_hA c.heats.length c_hc, .bool c.hooks] 27)).alloc (.cells #[.slice none 0 0, .int .i64 0, .int .i64 0, .slice none 0 0, .slice none 0 0, .bool false] 27)) := ((Below.refl _ _).alloc (Nat.le_refl _) _).alloc (by simp) _
    have f : ∀ {A : Option Addr} {l : List Int}, Ints w w.heap.size A l → IntsN ((w.alloc (.cells #[.slice c_gA c.gauges.length c_gc, .int .i64 c.size, .int .i64 c.load, .slice c_bA c.brakes.length c_bc, .slice c_hA c.heats.length c_hc, .bool c.hooks] 27)).alloc (.cells #[.slice none 0 0, .int .i64 0, .int .i64 0, .slice none 0 0, .slice none 0 0, .bool false] 27)) (GvS w.heap.size) A l := fun h k x hx => by
      obtain ⟨b, off, h1, h2, h3⟩ := h k x hx
      exact ⟨b, off, h1, by simp; omega, fun e => by rcases e with e | e <;> omega, (hb.cell (p := ⟨b, off + k, none⟩) h2).trans h3⟩
    refine ⟨blk_alloc (heap_alloc_new w _) _, ?_, f hr.gauges, f hr.brakes, f hr.heats, hb⟩
    have := heap_alloc_new (w.alloc (.cells #[.slice c_gA c.gauges.length c_gc, .int .i64 c.size, .int .i64 c.load, .slice c_bA c.brakes.length c_bc, .slice c_hA c.heats.length c_hc, .bool c.hooks] 27)) (.cells #[.slice none 0 0, .int .i64 0, .int .i64 0, .slice none 0 0, .slice none 0 0, .bool false] 27)
    simpa using this
  have HS0 := Lib.hid hs0
  have HF0 := Lib.hid hF
  have H30 := Lib.hid h30
  clear hs0 hx hr hF h30
  generalize hR : givenP c ts = R
  have HR := Lib.hid hR
  clear hR
  go_enter Tryz.func46, Tryz.ntmps46
  go_wp2_with fail
  generalize (w.alloc (.cells #[.slice c_gA c.gauges.length c_gc, .int .i64 c.size, .int .i64 c.load, .slice c_bA c.brakes.length c_bc, .slice c_hA c.heats.length c_hc, .bool c.hooks] 27)).alloc (.cells #[.slice none 0 0, .int .i64 0, .int .i64 0, .slice none 0 0, .slice none 0 0, .bool false] 27) = w0 at HS0 ⊢
  go_loopw [5] (fun iv wr => ∃ (k : Nat) (d : Pl.Cch) (d_gA d_bA d_hA : Option Addr) (d_gc d_bc d_hc : Nat), k ≤ ts.length ∧ iv = .int .i64 k ∧ Hid (d = givenP c (ts.take k)) ∧ Hid (GivSt w.heap.size w wr d d_gA d_bA d_hA d_gc d_bc d_hc) ∧ Few d k) (fun i _ => ts.length - (intOf i).toNat)
  case atStart => exact ⟨0, c, _, _, _, _, _, _, by omega, rfl, rfl, HS0.out, HF0.out⟩
  case round =>
    obtain ⟨k, d, d_gA, d_bA, d_hA, d_gc, d_bc, d_hc, hk, rfl, hD, hS, hF⟩ := hrel
    clear HS0 HF0
    obtain ⟨x0, x1, x2, x3, x4, x5⟩ := hS.out.cells
    have hsz := hS.out.size
    by_cases hkl : k < ts.length
    · obtain ⟨b, off, rfl, hb, hc⟩ := HX.out k ts[k] (List.getElem?_eq_getElem hkl)
      have hcr := (hS.out.bel.cell (p := ⟨b, off + k, none⟩) hb).trans hc
      have hki : (k : Int) < (ts.length : Int) := by omega
      have HDN : Hid (giveP d ts[k] = givenP c (ts.take (k + 1))) := by show _ = _; rw [givenP_take hkl, ← hD.out]
      obtain ⟨ht0, ht1⟩ := H30.out ts[k] (List.getElem_mem hkl)
      generalize ts[k] = t at hc hcr HDN ht0 ht1
      obtain ⟨fg, fb, fh⟩ := hF
      by_cases h30 : t = 30
      · subst h30
        have f5 := hS.out.frozen 5
        have HD2 : Hid (({ d with hooks := true } : Pl.Cch) = givenP c (ts.take (k + 1))) := by show _ = _; rw [← HDN.out]; rfl
        have HS2 := Lib.hid hS.out.hooks
        clear HDN hD
        go_wp2_with fail
        go_roundw
        case rel => exact ⟨k + 1, _, _, _, _, _, _, _, by omega, by go_num, HD2, HS2, ⟨by show d.gauges.length ≤ _; omega, by show d.brakes.length ≤ _; omega, by show d.heats.length ≤ _; omega⟩⟩
        case measure => simp [intOf]; omega
      · have hq : (t == 30) = false := by rw [beq_eq_false_iff_ne]; exact h30
        by_cases h20 : 20 < t
        · have HD2 : Hid (({ d with heats := putL d.heats (t - 20) } : Pl.Cch) = givenP c (ts.take (k + 1))) := by show _ = _; rw [← HDN.out, giveP, if_neg h30, if_pos h20]
          clear HDN hD
          go_wp2_with fail
          refine (put_any d_hA d_hc d.heats (t - 20) wr hS.out.h.ints (by omega)).mono ?_
          rintro e w1 ⟨A1, c1, rfl, ho1, hb1⟩
          have S1 := hS.out.below hb1
          have HS2 := Lib.hid (S1.heats (k := c1) (IntsN.of_own ho1 (fun k hk => fun e => by rcases e with e | e <;> omega)))
          obtain ⟨_, _, _, _, y4, _⟩ := S1.cells
          have f4 := S1.frozen 4
          have hpl := putL_length d.heats (t - 20)
          clear x0 x1 x2 x3 x4 x5 S1 ho1 hb1
          go_wp2_with fail
          go_roundw
          case rel => exact ⟨k + 1, _, _, _, _, _, _, _, by omega, by go_num, HD2, HS2, ⟨by show d.gauges.length ≤ _; omega, by show d.brakes.length ≤ _; omega, by show (putL d.heats (t - 20)).length ≤ _; omega⟩⟩
          case measure => simp [intOf]; omega
        · by_cases h10 : 10 < t
          · have HD2 : Hid (({ d with brakes := putL d.brakes (t - 10) } : Pl.Cch) = givenP c (ts.take (k + 1))) := by show _ = _; rw [← HDN.out, giveP, if_neg h30, if_neg h20, if_pos h10]
            clear HDN hD
            go_wp2_with fail
            refine (put_any d_bA d_bc d.brakes (t - 10) wr hS.out.b.ints (by omega)).mono ?_
            rintro e w1 ⟨A1, c1, rfl, ho1, hb1⟩
            have S1 := hS.out.below hb1
            have HS2 := Lib.hid (S1.brakes (k := c1) (IntsN.of_own ho1 (fun k hk => fun e => by rcases e with e | e <;> omega)))
            obtain ⟨_, _, _, y3, _, _⟩ := S1.cells
            have f4 := S1.frozen 3
            have hpl := putL_length d.brakes (t - 10)
            clear x0 x1 x2 x3 x4 x5 S1 ho1 hb1
            go_wp2_with fail
            go_roundw
            case rel => exact ⟨k + 1, _, _, _, _, _, _, _, by omega, by go_num, HD2, HS2, ⟨by show d.gauges.length ≤ _; omega, by show (putL d.brakes (t - 10)).length ≤ _; omega, by show d.heats.length ≤ _; omega⟩⟩
            case measure => simp [intOf]; omega
          · have HD2 : Hid (({ d with gauges := putL d.gauges (t) } : Pl.Cch) = givenP c (ts.take (k + 1))) := by show _ = _; rw [← HDN.out, giveP, if_neg h30, if_neg h20, if_neg h10]
            clear HDN hD
            go_wp2_with fail
            refine (put_any d_gA d_gc d.gauges (t) wr hS.out.g.ints (by omega)).mono ?_
            rintro e w1 ⟨A1, c1, rfl, ho1, hb1⟩
            have S1 := hS.out.below hb1
            have HS2 := Lib.hid (S1.gauges (k := c1) (IntsN.of_own ho1 (fun k hk => fun e => by rcases e with e | e <;> omega)))
            obtain ⟨y0, _, _, _, _, _⟩ := S1.cells
            have f4 := S1.frozen 0
            have hpl := putL_length d.gauges (t)
            clear x0 x1 x2 x3 x4 x5 S1 ho1 hb1
            go_wp2_with fail
            go_roundw
            case rel => exact ⟨k + 1, _, _, _, _, _, _, _, by omega, by go_num, HD2, HS2, ⟨by show (putL d.gauges (t)).length ≤ _; omega, by show d.brakes.length ≤ _; omega, by show d.heats.length ≤ _; omega⟩⟩
            case measure => simp [intOf]; omega
    · obtain rfl : k = ts.length := by omega
      have hDR : d = R := by rw [hD.out, List.take_length]; exact HR.out
      subst hDR
      have hni : ¬ (ts.length : Int) < (ts.length : Int) := by omega
      obtain ⟨⟨q0, q1, q2, q3, q4, q5⟩, r0, r1, r2, r3, r4, r5⟩ := hS.out.zeros
      obtain ⟨fg, fb, fh⟩ := hF
      clear hD HR hkl
      go_wp2_with fail
      refine bodyPost_ret (v := .agg #[.slice d_gA d.gauges.length d_gc, .int .i64 d.size, .int .i64 d.load, .slice d_bA d.brakes.length d_bc, .slice d_hA d.heats.length d_hc, .bool d.hooks]) (by simp [results, Tryz.results46, go_sem, q0, q1, q2, q3, q4, q5]) rfl ?_
      have hfin := hS.out.fin (.slice d_gA d.gauges.length d_gc) (.int .i64 d.size) (.int .i64 d.load) (.slice d_bA d.brakes.length d_bc) (.slice d_hA d.heats.length d_hc) (.bool d.hooks)
      exact ⟨d_gA, d_bA, d_hA, d_gc, d_bc, d_hc, rfl, ⟨by simpa using hfin.1, by simpa using hfin.2.1, by simpa using hfin.2.2.1, by omega, by omega, by omega⟩, hfin.2.2.2⟩
end Go.Proofs.YtpbjpochjagicaaGreat
