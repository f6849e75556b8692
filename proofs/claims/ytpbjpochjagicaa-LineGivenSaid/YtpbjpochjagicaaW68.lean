/- Walks: a number in a list, and all that a car has not: has and Things of the reference (by gen_things.py). -/
import Derived.Test.YtpbjpochjagicaaW66
namespace Go.Proofs.Ytpbjpochjagicaa
open Go.RowKit

theorem has_any (A : Option Addr) (c : Nat) (xs : List Int) (n : Int) (B : Nat) (w : World) (hx : Ints w B A xs) (hl : xs.length ≤ 9223372036854775807) :
    Calls Try.prog 88 #[.slice A xs.length c, .int .i64 n] w fun e w' => e = .returned (.bool (decide (n ∈ xs))) ∧ w = w' := by
  rcases hx.form with rfl | ⟨b, off, rfl, _, hc⟩
  · clear hx
    go_enter Try.func88, Try.ntmps88
    go_wp2
    go_loop [5] (fun i => i = .int .i64 0) (fun _ => 0)
    case atStart => rfl
    case round =>
      obtain rfl := hrel
      go_wp2
      go_ret
      exact ⟨by simp, rfl⟩
  · clear hx
    generalize hR : decide (n ∈ xs) = R
    have HR := Lib.hid hR
    clear hR
    go_enter Try.func88, Try.ntmps88
    go_wp2
    go_loop [5] (fun i => ∃ k : Nat, k ≤ xs.length ∧ i = .int .i64 k ∧ Hid (∀ x ∈ xs.take k, x ≠ n)) (fun i => xs.length - (intOf i).toNat)
    case atStart => exact ⟨0, Nat.zero_le _, rfl, fun x hx => by simp at hx⟩
    case round =>
      obtain ⟨k, hk, rfl, hN⟩ := hrel
      by_cases hlt : k < xs.length
      · have hck := hc k hlt
        by_cases he : xs[k] = n
        · have hT : Hid (R = true) := by show _ = _; rw [← HR.out]; exact decide_eq_true (he ▸ List.getElem_mem hlt)
          have hb : (xs[k] == n) = true := by rw [beq_iff_eq]; exact he
          clear he HR hN
          go_wp2
          go_ret
          exact ⟨by rw [hT.out]; rfl, rfl⟩
        · have hN' : Hid (∀ x ∈ xs.take (k + 1), x ≠ n) := by
            show ∀ x ∈ xs.take (k + 1), x ≠ n
            intro x hx
            rw [List.take_add_one, List.getElem?_eq_getElem hlt] at hx
            rcases List.mem_append.1 hx with h | h
            · exact hN.out x h
            · simp at h; subst h; exact he
          have hb : (xs[k] == n) = false := by rw [beq_eq_false_iff_ne]; exact he
          clear he hN
          go_wp2
          go_round
          case rel => exact ⟨k + 1, by omega, by go_num, hN'⟩
          case measure => simp [intOf]; omega
      · have hT : Hid (R = false) := by
          show _ = _
          rw [← HR.out, decide_eq_false_iff_not]
          intro h
          have := hN.out n (by rw [List.take_of_length_le (by omega)]; exact h)
          exact this rfl
        clear hN HR
        go_wp2
        go_ret
        exact ⟨by rw [hT.out]; rfl, rfl⟩

/-- What lacks in a list of the numbers below k, from b on. -/
def lackTo (xs : List Int) (b : Int) (k : Nat) : List Int := (((List.range (k - 1)).map fun j : Nat => (j : Int) + 1).filter fun n => decide (n ∉ xs)).map (b + ·)
theorem lackTo_in {xs : List Int} {b : Int} {k : Nat} (hk : 1 ≤ k) (h : (k : Int) ∉ xs) : lackTo xs b (k + 1) = lackTo xs b k ++ [b + k] := by
  obtain ⟨j, rfl⟩ : ∃ j, k = j + 1 := ⟨k - 1, by omega⟩
  have e : ((j : Int) + 1) ∉ xs := by simpa using h
  unfold lackTo
  simp only [Nat.add_sub_cancel, List.range_succ, List.map_append, List.filter_append, List.map_cons, List.map_nil]
  simp [e]
theorem lackTo_out {xs : List Int} {b : Int} {k : Nat} (hk : 1 ≤ k) (h : (k : Int) ∈ xs) : lackTo xs b (k + 1) = lackTo xs b k := by
  obtain ⟨j, rfl⟩ : ∃ j, k = j + 1 := ⟨k - 1, by omega⟩
  have e : ((j : Int) + 1) ∈ xs := by simpa using h
  unfold lackTo
  simp only [Nat.add_sub_cancel, List.range_succ, List.map_append, List.filter_append, List.map_cons, List.map_nil]
  simp [e]
theorem lackTo_len (xs : List Int) (b : Int) (k : Nat) : (lackTo xs b k).length ≤ k - 1 := by
  unfold lackTo
  rw [List.length_map]
  exact Nat.le_trans (List.length_filter_le _ _) (by simp)
theorem lackTo_four (xs : List Int) (b : Int) : lackTo xs b 4 = ([1, 2, 3].filter fun n => decide (n ∉ xs)).map (b + ·) := rfl
theorem missing_parts (c : Pl.Cch) : Pl.missing c = lackTo c.gauges 0 4 ++ lackTo c.brakes 10 4 ++ lackTo c.heats 20 4 ++ (if c.hooks then [] else [30]) := by
  rw [lackTo_four, lackTo_four, lackTo_four]
  have : ∀ l : List Int, l.map (fun x => 0 + x) = l := fun l => by simp
  rw [this]
  rfl

set_option maxRecDepth 20000 in
set_option maxHeartbeats 4000000 in
theorem things_any (c : Pl.Cch) (c_gA c_bA c_hA : Option Addr) (c_gc c_bc c_hc : Nat) (w : World) (hr : CReads w w.heap.size c c_gA c_bA c_hA c_gc c_bc c_hc) : Calls Try.prog 43 #[.agg #[.slice c_gA c.gauges.length c_gc, .int .i64 c.size, .int .i64 c.load, .slice c_bA c.brakes.length c_bc, .slice c_hA c.heats.length c_hc, .bool c.hooks]] w (PutPost (Pl.missing c) w) := by
  have HRD := Lib.hid hr
  have HM := Lib.hid (missing_parts c)
  have hlg := hr.lenG
  have hlb := hr.lenB
  have hlh := hr.lenH
  clear hr
  generalize hR : Pl.missing c = R
  have HR := Lib.hid (hR.symm.trans HM.out)
  clear hR HM
  have hbx : (w.alloc (.cells #[.slice c_gA c.gauges.length c_gc, .int .i64 c.size, .int .i64 c.load, .slice c_bA c.brakes.length c_bc, .slice c_hA c.heats.length c_hc, .bool c.hooks] 30)).heap[w.heap.size]? = some (.cells #[.slice c_gA c.gauges.length c_gc, .int .i64 c.size, .int .i64 c.load, .slice c_bA c.brakes.length c_bc, .slice c_hA c.heats.length c_hc, .bool c.hooks] 30 (0, 0)) := heap_alloc_new w _
  have hb0 : Below w.heap.size w (w.alloc (.cells #[.slice c_gA c.gauges.length c_gc, .int .i64 c.size, .int .i64 c.load, .slice c_bA c.brakes.length c_bc, .slice c_hA c.heats.length c_hc, .bool c.hooks] 30)) := (Below.refl _ _).alloc (Nat.le_refl _) _
  have hs0 : (w.alloc (.cells #[.slice c_gA c.gauges.length c_gc, .int .i64 c.size, .int .i64 c.load, .slice c_bA c.brakes.length c_bc, .slice c_hA c.heats.length c_hc, .bool c.hooks] 30)).heap.size = w.heap.size + 1 := by simp
  go_enter Try.func43, Try.ntmps43
  go_wp2_with fail
  generalize w.alloc (.cells #[.slice c_gA c.gauges.length c_gc, .int .i64 c.size, .int .i64 c.load, .slice c_bA c.brakes.length c_bc, .slice c_hA c.heats.length c_hc, .bool c.hooks] 30) = w0 at hbx hb0 hs0 ⊢
  have HBX := Lib.hid hbx
  have HB0 := Lib.hid hb0
  have HS0 := Lib.hid hs0
  clear hbx hb0 hs0
  go_loopw [3, 4] (fun v gv wr => ∃ (k : Nat) (A2 : Option Addr) (c2 : Nat), 1 ≤ k ∧ k ≤ 4 ∧ v = .slice A2 (lackTo c.gauges 0 k).length c2 ∧ gv = .int .i64 k ∧ Hid (OwnInts wr w0.heap.size A2 c2 (lackTo c.gauges 0 k)) ∧ Hid (Below w0.heap.size w0 wr)) (fun _ i _ => 4 - (intOf i).toNat)
  case atStart => exact ⟨1, none, 0, by omega, by omega, rfl, rfl, OwnInts.nil _ _, Below.refl _ _⟩
  case round =>
    obtain ⟨k, A2, c2, hk1, hk4, rfl, rfl, hO, hB⟩ := hrel
    have hsr := hB.out.size
    have hll := lackTo_len c.gauges 0 k
    have hxr : wr.heap[w.heap.size]? = some (.cells #[.slice c_gA c.gauges.length c_gc, .int .i64 c.size, .int .i64 c.load, .slice c_bA c.brakes.length c_bc, .slice c_hA c.heats.length c_hc, .bool c.hooks] 30 (0, 0)) := blk_below HBX.out hB.out (by have := HS0.out; omega)
    by_cases hkl : k < 4
    · have hki : (k : Int) ≤ 3 := by omega
      have x0 : wr.cell? ⟨w.heap.size, 0, none⟩ = some (.slice c_gA c.gauges.length c_gc) := blk_cell hxr 0
      have HI : Hid (Ints wr wr.heap.size c_gA c.gauges) := (HRD.out.below (HB0.out.trans (hB.out.mono (by have := HS0.out; omega)))).gauges.more (by have := HS0.out; omega)
      by_cases hin : (k : Int) ∈ c.gauges
      · have HNS := Lib.hid (lackTo_out (b := 0) hk1 hin)
        have hd : decide ((k : Int) ∈ c.gauges) = true := decide_eq_true hin
        clear hin
        go_wp2_with fail
        refine (has_any c_gA c_gc c.gauges k _ wr HI.out (by omega)).mono ?_
        rintro e w' ⟨rfl, rfl⟩
        rw [hd]
        clear hd
        go_wp2_with fail
        go_roundw
        case rel => exact ⟨k + 1, A2, c2, by omega, by omega, by first | (rw [HNS.out]; done) | (rw [HNS.out]; simp), by go_num, (by show OwnInts _ _ _ _ _; rw [HNS.out]; exact hO.out), hB⟩
        case measure => simp [intOf]; omega
      · have HNS := Lib.hid (lackTo_in (b := 0) hk1 hin)
        have hd : decide ((k : Int) ∈ c.gauges) = false := decide_eq_false hin
        clear hin
        obtain ⟨zs, hzs⟩ : ∃ zs, zs = lackTo c.gauges 0 k := ⟨_, rfl⟩
        have HNZ : Hid (lackTo c.gauges 0 (k + 1) = zs ++ [0 + (k : Int)]) := by show _ = _; first | (rw [HNS.out, hzs]; done) | (rw [HNS.out, hzs]; simp)
        rw [← hzs] at hO ⊢
        have hzl : zs.length ≤ 20 := by
          rw [hzs]
          try simp only [List.length_append]
          omega
        have HZL := Lib.hid hzl
        clear hzs hzl
        go_wp2_with fail
        refine (has_any c_gA c_gc c.gauges k _ wr HI.out (by omega)).mono ?_
        rintro e w' ⟨rfl, rfl⟩
        rw [hd]
        clear hd
        go_wp2_with (at_builtin; refine wpl_app_ints rfl (.tmp 16) (.tmp 18) 22 rfl w0.heap.size Try.underlying22 int_info A2 c2 zs rfl (own_alloc hO.out _) (wr.heap.size + 1) (some ⟨wr.heap.size, 0, none⟩) 1 [(k : Int)] rfl (ints_one _ _ _ (by simp) (by omega)) (by have := HZL.out; simp; omega) (by simp; omega) ?_; intro A3 c3 w4 hown4 hg4 hat4; have HO4 := Lib.hid hown4; have HB4 := Lib.hid ((hB.out.alloc hsr (.cells #[.int .i64 ((k : Int))] 3)).grown hg4 (by simp; omega) (own_from hO.out)); clear hown4 hg4 hat4)
        go_roundw
        case rel => exact ⟨k + 1, A3, c3, by omega, by omega, by first | (rw [HNZ.out]; done) | (rw [HNZ.out]; simp), by go_num, (by show OwnInts _ _ _ _ _; rw [HNZ.out]; simpa using HO4.out), HB4⟩
        case measure => simp [intOf]; omega
    · obtain rfl : k = 4 := by omega
      clear hkl hk1 hk4 hll hxr
      rw [show ((4 : Nat) : Int) = 4 from rfl]
      go_wp2_with fail
      go_loopw [3, 5] (fun v gv wr => ∃ (k : Nat) (A2 : Option Addr) (c2 : Nat), 1 ≤ k ∧ k ≤ 4 ∧ v = .slice A2 (lackTo c.gauges 0 4 ++ lackTo c.brakes 10 k).length c2 ∧ gv = .int .i64 k ∧ Hid (OwnInts wr w0.heap.size A2 c2 (lackTo c.gauges 0 4 ++ lackTo c.brakes 10 k)) ∧ Hid (Below w0.heap.size w0 wr)) (fun _ i _ => 4 - (intOf i).toNat)
      case atStart => exact ⟨1, A2, c2, by omega, by omega, by rw [show lackTo c.brakes 10 1 = [] from rfl, List.append_nil], rfl, (by show OwnInts _ _ _ _ _; rw [show lackTo c.brakes 10 1 = [] from rfl, List.append_nil]; exact hO.out), hB⟩
      case round =>
        obtain ⟨k, A2, c2, hk1, hk4, rfl, rfl, hO, hB⟩ := hrel
        have hsr := hB.out.size
        have hll := lackTo_len c.brakes 10 k
        have hxr : wr.heap[w.heap.size]? = some (.cells #[.slice c_gA c.gauges.length c_gc, .int .i64 c.size, .int .i64 c.load, .slice c_bA c.brakes.length c_bc, .slice c_hA c.heats.length c_hc, .bool c.hooks] 30 (0, 0)) := blk_below HBX.out hB.out (by have := HS0.out; omega)
        by_cases hkl : k < 4
        · have hki : (k : Int) ≤ 3 := by omega
          have x0 : wr.cell? ⟨w.heap.size, 3, none⟩ = some (.slice c_bA c.brakes.length c_bc) := blk_cell hxr 3
          have HI : Hid (Ints wr wr.heap.size c_bA c.brakes) := (HRD.out.below (HB0.out.trans (hB.out.mono (by have := HS0.out; omega)))).brakes.more (by have := HS0.out; omega)
          by_cases hin : (k : Int) ∈ c.brakes
          · have HNS := Lib.hid (lackTo_out (b := 10) hk1 hin)
            have hd : decide ((k : Int) ∈ c.brakes) = true := decide_eq_true hin
            clear hin
            go_wp2_with fail
            refine (has_any c_bA c_bc c.brakes k _ wr HI.out (by omega)).mono ?_
            rintro e w' ⟨rfl, rfl⟩
            rw [hd]
            clear hd
            go_wp2_with fail
            go_roundw
            case rel => exact ⟨k + 1, A2, c2, by omega, by omega, by first | (rw [HNS.out]; done) | (rw [HNS.out]; simp), by go_num, (by show OwnInts _ _ _ _ _; rw [HNS.out]; exact hO.out), hB⟩
            case measure => simp [intOf]; omega
          · have HNS := Lib.hid (lackTo_in (b := 10) hk1 hin)
            have hd : decide ((k : Int) ∈ c.brakes) = false := decide_eq_false hin
            clear hin
            obtain ⟨zs, hzs⟩ : ∃ zs, zs = lackTo c.gauges 0 4 ++ lackTo c.brakes 10 k := ⟨_, rfl⟩
            have HNZ : Hid (lackTo c.gauges 0 4 ++ lackTo c.brakes 10 (k + 1) = zs ++ [10 + (k : Int)]) := by show _ = _; first | (rw [HNS.out, hzs]; done) | (rw [HNS.out, hzs]; simp)
            rw [← hzs] at hO ⊢
            have hzl : zs.length ≤ 20 := by
              rw [hzs]
              have := lackTo_len c.gauges 0 4
              try simp only [List.length_append]
              omega
            have HZL := Lib.hid hzl
            clear hzs hzl
            go_wp2_with fail
            refine (has_any c_bA c_bc c.brakes k _ wr HI.out (by omega)).mono ?_
            rintro e w' ⟨rfl, rfl⟩
            rw [hd]
            clear hd
            go_wp2_with (at_builtin; refine wpl_app_ints rfl (.tmp 29) (.tmp 32) 22 rfl w0.heap.size Try.underlying22 int_info A2 c2 zs rfl (own_alloc hO.out _) (wr.heap.size + 1) (some ⟨wr.heap.size, 0, none⟩) 1 [10 + (k : Int)] rfl (ints_one _ _ _ (by simp) (by omega)) (by have := HZL.out; simp; omega) (by simp; omega) ?_; intro A3 c3 w4 hown4 hg4 hat4; have HO4 := Lib.hid hown4; have HB4 := Lib.hid ((hB.out.alloc hsr (.cells #[.int .i64 (10 + (k : Int))] 3)).grown hg4 (by simp; omega) (own_from hO.out)); clear hown4 hg4 hat4)
            go_roundw
            case rel => exact ⟨k + 1, A3, c3, by omega, by omega, by first | (rw [HNZ.out]; done) | (rw [HNZ.out]; simp), by go_num, (by show OwnInts _ _ _ _ _; rw [HNZ.out]; exact HO4.out), HB4⟩
            case measure => simp [intOf]; omega
        · obtain rfl : k = 4 := by omega
          clear hkl hk1 hk4 hll hxr
          rw [show ((4 : Nat) : Int) = 4 from rfl]
          go_wp2_with fail
          go_loopw [3, 6] (fun v gv wr => ∃ (k : Nat) (A2 : Option Addr) (c2 : Nat), 1 ≤ k ∧ k ≤ 4 ∧ v = .slice A2 (lackTo c.gauges 0 4 ++ lackTo c.brakes 10 4 ++ lackTo c.heats 20 k).length c2 ∧ gv = .int .i64 k ∧ Hid (OwnInts wr w0.heap.size A2 c2 (lackTo c.gauges 0 4 ++ lackTo c.brakes 10 4 ++ lackTo c.heats 20 k)) ∧ Hid (Below w0.heap.size w0 wr)) (fun _ i _ => 4 - (intOf i).toNat)
          case atStart => exact ⟨1, A2, c2, by omega, by omega, by rw [show lackTo c.heats 20 1 = [] from rfl, List.append_nil], rfl, (by show OwnInts _ _ _ _ _; rw [show lackTo c.heats 20 1 = [] from rfl, List.append_nil]; exact hO.out), hB⟩
          case round =>
            obtain ⟨k, A2, c2, hk1, hk4, rfl, rfl, hO, hB⟩ := hrel
            have hsr := hB.out.size
            have hll := lackTo_len c.heats 20 k
            have hxr : wr.heap[w.heap.size]? = some (.cells #[.slice c_gA c.gauges.length c_gc, .int .i64 c.size, .int .i64 c.load, .slice c_bA c.brakes.length c_bc, .slice c_hA c.heats.length c_hc, .bool c.hooks] 30 (0, 0)) := blk_below HBX.out hB.out (by have := HS0.out; omega)
            by_cases hkl : k < 4
            · have hki : (k : Int) ≤ 3 := by omega
              have x0 : wr.cell? ⟨w.heap.size, 4, none⟩ = some (.slice c_hA c.heats.length c_hc) := blk_cell hxr 4
              have HI : Hid (Ints wr wr.heap.size c_hA c.heats) := (HRD.out.below (HB0.out.trans (hB.out.mono (by have := HS0.out; omega)))).heats.more (by have := HS0.out; omega)
              by_cases hin : (k : Int) ∈ c.heats
              · have HNS := Lib.hid (lackTo_out (b := 20) hk1 hin)
                have hd : decide ((k : Int) ∈ c.heats) = true := decide_eq_true hin
                clear hin
                go_wp2_with fail
                refine (has_any c_hA c_hc c.heats k _ wr HI.out (by omega)).mono ?_
                rintro e w' ⟨rfl, rfl⟩
                rw [hd]
                clear hd
                go_wp2_with fail
                go_roundw
                case rel => exact ⟨k + 1, A2, c2, by omega, by omega, by first | (rw [HNS.out]; done) | (rw [HNS.out]; simp), by go_num, (by show OwnInts _ _ _ _ _; rw [HNS.out]; exact hO.out), hB⟩
                case measure => simp [intOf]; omega
              · have HNS := Lib.hid (lackTo_in (b := 20) hk1 hin)
                have hd : decide ((k : Int) ∈ c.heats) = false := decide_eq_false hin
                clear hin
                obtain ⟨zs, hzs⟩ : ∃ zs, zs = lackTo c.gauges 0 4 ++ lackTo c.brakes 10 4 ++ lackTo c.heats 20 k := ⟨_, rfl⟩
                have HNZ : Hid (lackTo c.gauges 0 4 ++ lackTo c.brakes 10 4 ++ lackTo c.heats 20 (k + 1) = zs ++ [20 + (k : Int)]) := by show _ = _; first | (rw [HNS.out, hzs]; done) | (rw [HNS.out, hzs]; simp)
                rw [← hzs] at hO ⊢
                have hzl : zs.length ≤ 20 := by
                  rw [hzs]
                  have := lackTo_len c.gauges 0 4
                  have := lackTo_len c.brakes 10 4
                  try simp only [List.length_append]
                  omega
                have HZL := Lib.hid hzl
                clear hzs hzl
                go_wp2_with fail
                refine (has_any c_hA c_hc c.heats k _ wr HI.out (by omega)).mono ?_
                rintro e w' ⟨rfl, rfl⟩
                rw [hd]
                clear hd
                go_wp2_with (at_builtin; refine wpl_app_ints rfl (.tmp 43) (.tmp 46) 22 rfl w0.heap.size Try.underlying22 int_info A2 c2 zs rfl (own_alloc hO.out _) (wr.heap.size + 1) (some ⟨wr.heap.size, 0, none⟩) 1 [20 + (k : Int)] rfl (ints_one _ _ _ (by simp) (by omega)) (by have := HZL.out; simp; omega) (by simp; omega) ?_; intro A3 c3 w4 hown4 hg4 hat4; have HO4 := Lib.hid hown4; have HB4 := Lib.hid ((hB.out.alloc hsr (.cells #[.int .i64 (20 + (k : Int))] 3)).grown hg4 (by simp; omega) (own_from hO.out)); clear hown4 hg4 hat4)
                go_roundw
                case rel => exact ⟨k + 1, A3, c3, by omega, by omega, by first | (rw [HNZ.out]; done) | (rw [HNZ.out]; simp), by go_num, (by show OwnInts _ _ _ _ _; rw [HNZ.out]; exact HO4.out), HB4⟩
                case measure => simp [intOf]; omega
            · obtain rfl : k = 4 := by omega
              have x5 : wr.cell? ⟨w.heap.size, 5, none⟩ = some (.bool c.hooks) := blk_cell hxr 5
              clear hkl hk1 hk4 hll hxr
              rw [show ((4 : Nat) : Int) = 4 from rfl]
              have l1 := lackTo_len c.gauges 0 4
              have l2 := lackTo_len c.brakes 10 4
              have l3 := lackTo_len c.heats 20 4
              obtain ⟨zs, hzs⟩ : ∃ zs, zs = lackTo c.gauges 0 4 ++ lackTo c.brakes 10 4 ++ lackTo c.heats 20 4 := ⟨_, rfl⟩
              have hzl : zs.length ≤ 20 := by rw [hzs]; simp only [List.length_append]; omega
              have HZL := Lib.hid hzl
              have HRZ := HR
              rw [← hzs] at hO HRZ ⊢
              clear hzs hzl l1 l2 l3 HR
              have HBW := Lib.hid (HB0.out.trans (hB.out.mono HB0.out.size))
              have hs1 := HS0.out
              cases hh : c.hooks
              · rw [hh] at x5 HRZ
                clear hh
                go_wp2_with (at_builtin; refine wpl_app_ints rfl (.tmp 51) (.tmp 52) 22 rfl w0.heap.size Try.underlying22 int_info A2 c2 zs rfl (own_alloc hO.out _) (wr.heap.size + 1) (some ⟨wr.heap.size, 0, none⟩) 1 [30] rfl (ints_one _ _ _ (by simp) (by omega)) (by have := HZL.out; simp; omega) (by simp; omega) ?_; intro A3 c3 w4 hown4 hg4 hat4; have HO4 := Lib.hid hown4; have HB4 := Lib.hid ((hB.out.alloc hsr (.cells #[.int .i64 30] 3)).grown hg4 (by simp; omega) (own_from hO.out)); clear hown4 hg4 hat4)
                go_ret
                have hRe : R = zs ++ [30] := HRZ.out
                subst hRe
                exact ⟨A3, c3, by simp, own_weaken (base := w.heap.size) HO4.out HB0.out.size, HB0.out.trans (HB4.out.mono HB0.out.size)⟩
              · rw [hh] at x5 HRZ
                clear hh
                go_wp2_with fail
                go_ret
                have hRe : R = zs := by rw [HRZ.out]; simp
                subst hRe
                exact ⟨A2, c2, rfl, own_weaken (base := w.heap.size) hO.out HB0.out.size, HBW.out⟩
end Go.Proofs.Ytpbjpochjagicaa
