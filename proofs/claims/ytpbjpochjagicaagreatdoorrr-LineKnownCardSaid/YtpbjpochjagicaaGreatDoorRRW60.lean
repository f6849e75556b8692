/- Walks: all lines that do not bar a car: Open. -/
import Derived.Test.YtpbjpochjagicaaGreatDoorRRW10
import Derived.Test.YtpbjpochjagicaaGreatDoorRRWy
namespace Go.Proofs.YtpbjpochjagicaaGreatDoorRR
open Go.RowKit

def openTo (n : Pl.Nt) (c : Pl.Cch) (k : Nat) : List Int := ((List.range k).filter fun i => decide ((Pl.barred c (n.tracks.getD i default)).length = 0)).map fun i : Nat => (i : Int)
theorem openTo_in {n : Pl.Nt} {c : Pl.Cch} {k : Nat} (h : (Pl.barred c (n.tracks.getD k default)).length = 0) : openTo n c (k + 1) = openTo n c k ++ [(k : Int)] := by
  unfold openTo
  rw [List.range_succ, List.filter_append, List.map_append, List.filter_cons, if_pos (decide_eq_true h)]
  rfl
theorem openTo_out {n : Pl.Nt} {c : Pl.Cch} {k : Nat} (h : (Pl.barred c (n.tracks.getD k default)).length ≠ 0) : openTo n c (k + 1) = openTo n c k := by
  unfold openTo
  rw [List.range_succ, List.filter_append, List.map_append, List.filter_cons, if_neg (by simpa using h)]
  simp
theorem openTo_length (n : Pl.Nt) (c : Pl.Cch) (k : Nat) : (openTo n c k).length ≤ k := by
  have := List.length_filter_le (fun i => decide ((Pl.barred c (n.tracks.getD i default)).length = 0)) (List.range k)
  simpa [openTo] using this
theorem own_lower {w : World} {base base2 : Nat} {A : Option Addr} {c : Nat} {xs : List Int} (h : OwnInts w base2 A c xs) (hb : base ≤ base2) : OwnInts w base A c xs := by
  refine ⟨h.1, ?_⟩
  rcases h.2 with h2 | ⟨g, cap, cur, hv, hg, r⟩
  · exact .inl h2
  · exact .inr ⟨g, cap, cur, hv, Nat.le_trans hb hg, r⟩
/-- What Open hands back. -/
def openOut (n : Pl.Nt) (c : Pl.Cch) : List Int × Int := if Pl.both n c ≠ 0 then ([], Pl.both n c) else (Pl.openOf n c, 0)
def OpenPost (n : Pl.Nt) (c : Pl.Cch) (w : World) (e : Ending) (w' : World) : Prop :=
  ∃ A cp, e = .returned (.tuple #[.slice A (openOut n c).1.length cp, .int .i64 (openOut n c).2]) ∧ OwnInts w' w.heap.size A cp (openOut n c).1 ∧ Below w.heap.size w w'

set_option maxRecDepth 20000 in
set_option maxHeartbeats 4000000 in
theorem open_any (n : Pl.Nt) (n_tA n_sA : Option Addr) (n_tc n_sc : Nat) (c : Pl.Cch) (c_gA c_bA c_hA : Option Addr) (c_gc c_bc c_hc : Nat) (w : World) (hn : NReads w w.heap.size n n_tA n_sA n_tc n_sc) (hr : CReads w w.heap.size c c_gA c_bA c_hA c_gc c_bc c_hc) (hT : n.tracks.length ≤ 1000000) :
    Calls Tryz.prog 10 #[.agg #[.int .i64 n.stops, .slice n_tA n.tracks.length n_tc, .slice n_sA n.shops.length n_sc], .agg #[.slice c_gA c.gauges.length c_gc, .int .i64 c.size, .int .i64 c.load, .slice c_bA c.brakes.length c_bc, .slice c_hA c.heats.length c_hc, .bool c.hooks]] w (OpenPost n c w) := by
  have hb2 : ∀ (o1 o2 : Obj), Below w.heap.size w ((w.alloc o1).alloc o2) := fun o1 o2 => ((Below.refl _ _).alloc (Nat.le_refl _) _).alloc (by simp) _
  have Hn := Lib.hid (((hn.below (hb2 (.cells #[.int .i64 n.stops, .slice n_tA n.tracks.length n_tc, .slice n_sA n.shops.length n_sc] 25) (.cells #[.slice c_gA c.gauges.length c_gc, .int .i64 c.size, .int .i64 c.load, .slice c_bA c.brakes.length c_bc, .slice c_hA c.heats.length c_hc, .bool c.hooks] 28)))).more (B' := w.heap.size + 1 + 1) (by omega))
  have Hr := Lib.hid (((hr.below (hb2 (.cells #[.int .i64 n.stops, .slice n_tA n.tracks.length n_tc, .slice n_sA n.shops.length n_sc] 25) (.cells #[.slice c_gA c.gauges.length c_gc, .int .i64 c.size, .int .i64 c.load, .slice c_bA c.brakes.length c_bc, .slice c_hA c.heats.length c_hc, .bool c.hooks] 28)))).more (B' := w.heap.size + 1 + 1) (by omega))
  have HB2 := Lib.hid hb2; clear hb2 hn hr
  have HM0 : Hid (((w.alloc (.cells #[.int .i64 n.stops, .slice n_tA n.tracks.length n_tc, .slice n_sA n.shops.length n_sc] 25)).alloc (.cells #[.slice c_gA c.gauges.length c_gc, .int .i64 c.size, .int .i64 c.load, .slice c_bA c.brakes.length c_bc, .slice c_hA c.heats.length c_hc, .bool c.hooks] 28)).heap[w.heap.size]? = some (.cells #[.int .i64 n.stops, .slice n_tA n.tracks.length n_tc, .slice n_sA n.shops.length n_sc] 25 (0, 0))) := blk_alloc (heap_alloc_new w _) _
  have HM1 : Hid (((w.alloc (.cells #[.int .i64 n.stops, .slice n_tA n.tracks.length n_tc, .slice n_sA n.shops.length n_sc] 25)).alloc (.cells #[.slice c_gA c.gauges.length c_gc, .int .i64 c.size, .int .i64 c.load, .slice c_bA c.brakes.length c_bc, .slice c_hA c.heats.length c_hc, .bool c.hooks] 28)).heap[w.heap.size + 1]? = some (.cells #[.slice c_gA c.gauges.length c_gc, .int .i64 c.size, .int .i64 c.load, .slice c_bA c.brakes.length c_bc, .slice c_hA c.heats.length c_hc, .bool c.hooks] 28 (0, 0))) := by
    have := heap_alloc_new (w.alloc (.cells #[.int .i64 n.stops, .slice n_tA n.tracks.length n_tc, .slice n_sA n.shops.length n_sc] 25)) (.cells #[.slice c_gA c.gauges.length c_gc, .int .i64 c.size, .int .i64 c.load, .slice c_bA c.brakes.length c_bc, .slice c_hA c.heats.length c_hc, .bool c.hooks] 28)
    show _ = _
    simpa using this
  by_cases e1 : Pl.both n c = 0
  · have hN : Hid (openOut n c = (Pl.openOf n c, 0)) := by show _ = _; rw [openOut, if_neg (by simp [e1])]
    have hN2 : Hid (Pl.openOf n c = openTo n c n.tracks.length) := rfl
    have HE := Lib.hid e1
    clear e1
    go_enter Tryz.func10, Tryz.ntmps10
    go_wp2_with fail
    refine (both_any n n_tA n_sA n_tc n_sc c c_gA c_bA c_hA c_gc c_bc c_hc _ (by simpa using Hn.out) (by simpa using Hr.out)).mono ?_
    rintro e w1 ⟨rfl, hb⟩
    rw [HE.out]
    have m0 := Lib.hid (blk_below HM0.out hb (by simp; omega)); have m1 := Lib.hid (blk_below HM1.out hb (by simp))
    have x0 : w1.cell? ⟨w.heap.size + 1, 0, none⟩ = some (.slice c_gA c.gauges.length c_gc) := blk_cell m1.out 0
    have x1 : w1.cell? ⟨w.heap.size + 1, 1, none⟩ = some (.int .i64 c.size) := blk_cell m1.out 1
    have x2 : w1.cell? ⟨w.heap.size + 1, 2, none⟩ = some (.int .i64 c.load) := blk_cell m1.out 2
    have x3 : w1.cell? ⟨w.heap.size + 1, 3, none⟩ = some (.slice c_bA c.brakes.length c_bc) := blk_cell m1.out 3
    have x4 : w1.cell? ⟨w.heap.size + 1, 4, none⟩ = some (.slice c_hA c.heats.length c_hc) := blk_cell m1.out 4
    have x5 : w1.cell? ⟨w.heap.size + 1, 5, none⟩ = some (.bool c.hooks) := blk_cell m1.out 5
    have z1 : w1.cell? ⟨w.heap.size, 1, none⟩ = some (.slice n_tA n.tracks.length n_tc) := blk_cell m0.out 1
    have hsz := hb.size
    have HW := Lib.hid ((HB2.out (.cells #[.int .i64 n.stops, .slice n_tA n.tracks.length n_tc, .slice n_sA n.shops.length n_sc] 25) (.cells #[.slice c_gA c.gauges.length c_gc, .int .i64 c.size, .int .i64 c.load, .slice c_bA c.brakes.length c_bc, .slice c_hA c.heats.length c_hc, .bool c.hooks] 28)).trans (hb.mono (by simp; omega)))
    have Hcar := Lib.hid (car_made w1 c c_gA c_bA c_hA c_gc c_bc c_hc n n_tA n_sA n_tc n_sc m0.out)
    have hs1 : w.heap.size + 1 + 1 ≤ w1.heap.size := by simpa using hsz
    have HB3 := Lib.hid ((HW.out).alloc (by omega) (.cells (#[.slice c_gA c.gauges.length c_gc, .int .i64 c.size, .int .i64 c.load, .slice c_bA c.brakes.length c_bc, .slice c_hA c.heats.length c_hc, .bool c.hooks] ++ #[.pointer (some ⟨w.heap.size, 0, none⟩), .slice none 0 0]) 58))
    have Hn3 := Lib.hid ((((Hn.out.below (by simpa using hb)).more hs1).alloc (Nat.le_refl _) (.cells (#[.slice c_gA c.gauges.length c_gc, .int .i64 c.size, .int .i64 c.load, .slice c_bA c.brakes.length c_bc, .slice c_hA c.heats.length c_hc, .bool c.hooks] ++ #[.pointer (some ⟨w.heap.size, 0, none⟩), .slice none 0 0]) 58)).more (B' := w1.heap.size + 1) (by omega))
    have Hr3 := Lib.hid ((((Hr.out.below (by simpa using hb)).more hs1).alloc (Nat.le_refl _) (.cells (#[.slice c_gA c.gauges.length c_gc, .int .i64 c.size, .int .i64 c.load, .slice c_bA c.brakes.length c_bc, .slice c_hA c.heats.length c_hc, .bool c.hooks] ++ #[.pointer (some ⟨w.heap.size, 0, none⟩), .slice none 0 0]) 58)).more (B' := w1.heap.size + 1) (by omega))
    have hl0 : w.heap.size < w1.heap.size := by omega
    clear hb hsz
    go_wp2_with fail
    have hsz2 : (w1.alloc (.cells (#[.slice c_gA c.gauges.length c_gc, .int .i64 c.size, .int .i64 c.load, .slice c_bA c.brakes.length c_bc, .slice c_hA c.heats.length c_hc, .bool c.hooks] ++ #[.pointer (some ⟨w.heap.size, 0, none⟩), .slice none 0 0]) 58)).heap.size = w1.heap.size + 1 := by simp
    have HS2 := Lib.hid hsz2
    change Hid (Below w.heap.size w (w1.alloc (.cells #[.slice c_gA c.gauges.length c_gc, .int .i64 c.size, .int .i64 c.load, .slice c_bA c.brakes.length c_bc, .slice c_hA c.heats.length c_hc, .bool c.hooks, .pointer (some ⟨w.heap.size, 0, none⟩), .slice none 0 0] 58))) at HB3
    change Hid ((w1.alloc (.cells #[.slice c_gA c.gauges.length c_gc, .int .i64 c.size, .int .i64 c.load, .slice c_bA c.brakes.length c_bc, .slice c_hA c.heats.length c_hc, .bool c.hooks, .pointer (some ⟨w.heap.size, 0, none⟩), .slice none 0 0] 58)).heap.size = w1.heap.size + 1) at HS2
    clear x0 x1 x2 x3 x4 x5 HW
    have hcar := Hcar.out
    have HCAR : Hid (CarAt (w1.alloc (.cells #[.slice c_gA c.gauges.length c_gc, .int .i64 c.size, .int .i64 c.load, .slice c_bA c.brakes.length c_bc, .slice c_hA c.heats.length c_hc, .bool c.hooks, .pointer (some ⟨w.heap.size, 0, none⟩), .slice none 0 0] 58)) w1.heap.size w.heap.size c c_gA c_bA c_hA c_gc c_bc c_hc n n_tA n_sA n_tc n_sc none 0 0) := hcar
    have HNR : Hid (NReads (w1.alloc (.cells #[.slice c_gA c.gauges.length c_gc, .int .i64 c.size, .int .i64 c.load, .slice c_bA c.brakes.length c_bc, .slice c_hA c.heats.length c_hc, .bool c.hooks, .pointer (some ⟨w.heap.size, 0, none⟩), .slice none 0 0] 58)) (w1.heap.size + 1) n n_tA n_sA n_tc n_sc) := Hn3.out
    have HRR : Hid (CReads (w1.alloc (.cells #[.slice c_gA c.gauges.length c_gc, .int .i64 c.size, .int .i64 c.load, .slice c_bA c.brakes.length c_bc, .slice c_hA c.heats.length c_hc, .bool c.hooks, .pointer (some ⟨w.heap.size, 0, none⟩), .slice none 0 0] 58)) (w1.heap.size + 1) c c_gA c_bA c_hA c_gc c_bc c_hc) := Hr3.out
    clear hcar Hcar Hn3 Hr3 hsz2
    generalize w1.alloc (.cells #[.slice c_gA c.gauges.length c_gc, .int .i64 c.size, .int .i64 c.load, .slice c_bA c.brakes.length c_bc, .slice c_hA c.heats.length c_hc, .bool c.hooks, .pointer (some ⟨w.heap.size, 0, none⟩), .slice none 0 0] 58) = w2 at *
    generalize hX : w1.heap.size = X at *
    clear hX
    have hX2 : X < w2.heap.size := HCAR.out.ltX
    have hN2' : w.heap.size < w2.heap.size := HCAR.out.ltN
    go_loopw [8, 22] (fun lv iv wr => ∃ (A : Option Addr) (cp k : Nat), k ≤ n.tracks.length ∧ lv = .slice A (openTo n c k).length cp ∧ iv = .int .i64 k ∧ Hid (OwnInts wr w2.heap.size A cp (openTo n c k)) ∧ Hid (Below w2.heap.size w2 wr)) (fun _ i _ => n.tracks.length - (intOf i).toNat)
    case atStart => exact ⟨none, 0, 0, by omega, rfl, rfl, OwnInts.nil _ _, Below.refl _ _⟩
    case round =>
      obtain ⟨A, cp, k, hk, rfl, rfl, hO, hB⟩ := hrel
      have hsr := hB.out.size
      have hlk := openTo_length n c k
      by_cases hkl : k < n.tracks.length
      · have hkk : (k : Int) < (n.tracks.length : Int) := by omega
        have hg : n.tracks.getD k default = n.tracks[k] := by simp [List.getD_eq_getElem?_getD, List.getElem?_eq_getElem hkl]
        have HG := Lib.hid hg
        clear hg
        go_wp2_with fail
        refine (barred_any X w.heap.size c c_gA c_bA c_hA c_gc c_bc c_hc n n_tA n_sA n_tc n_sc none 0 0 k hkl wr (HCAR.out.below hB.out hX2 hN2') ((HRR.out.below (hB.out.mono (Nat.le_of_eq HS2.out.symm))).more (by rw [← HS2.out]; exact hsr)) ((HNR.out.below (hB.out.mono (Nat.le_of_eq HS2.out.symm))).more (by rw [← HS2.out]; exact hsr))).mono ?_
        rintro e wa ⟨bA, bc, rfl, hown, hba⟩
        have HBA := Lib.hid (hB.out.trans (hba.mono hsr))
        have HOA := Lib.hid (own_below hO.out hba (Nat.le_refl _))
        have hsa := HBA.out.size
        clear hown hba
        by_cases hz : (Pl.barred c n.tracks[k]).length = 0
        · have hN3 := Lib.hid (openTo_in (n := n) (c := c) (k := k) (by rw [HG.out]; exact hz))
          rw [hz]
          clear hz
          go_wp2_with (at_builtin; refine wpl_app_ints rfl (.tmp 30) (.tmp 32) 23 rfl w2.heap.size Tryz.underlying23 int_info A cp (openTo n c k) rfl (own_alloc HOA.out _) (wa.heap.size + 1) (some ⟨wa.heap.size, 0, none⟩) 1 [(k : Int)] rfl (ints_one _ _ _ (by simp) (by omega)) (by simp; omega) (by simp; omega) ?_; intro A2 c2 w4 hown4 hg4 hat4; have hfar : Below w2.heap.size w2 w4 := HBA.out.trans (((Below.refl _ _).alloc hsa _).grown hg4 (by simp; omega) (own_from HOA.out)); have Hfar := Lib.hid hfar; have Hown4 := Lib.hid hown4; clear hfar hown4 hg4 hat4)
          go_roundw
          case rel => exact ⟨A2, c2, k + 1, by omega, (by rw [hN3.out]; simp), by go_num, (by show OwnInts _ _ _ _ _; rw [hN3.out]; exact Hown4.out), Hfar⟩
          case measure => simp [intOf]; omega
        · have hN3 := Lib.hid (openTo_out (n := n) (c := c) (k := k) (by rw [HG.out]; exact hz))
          have hq : (((Pl.barred c n.tracks[k]).length : Int) == 0) = false := by rw [beq_eq_false_iff_ne]; omega
          clear hz
          go_wp2_with fail
          go_roundw
          case rel => exact ⟨A, cp, k + 1, by omega, (by rw [hN3.out]), by go_num, (by show OwnInts _ _ _ _ _; rw [hN3.out]; exact HOA.out), HBA⟩
          case measure => simp [intOf]; omega
      · obtain rfl : k = n.tracks.length := by omega
        have HW := Lib.hid (HB3.out.trans (hB.out.mono HB3.out.size))
        have HOW := Lib.hid hO.out
        have hbs := HB3.out.size
        clear hO hB
        go_wp2_with fail
        go_ret2
        exact ⟨A, cp, by rw [hN.out, hN2.out]; rfl, by rw [hN.out, hN2.out]; exact own_lower HOW.out hbs, HW.out⟩
  · have hN : Hid (openOut n c = ([], Pl.both n c)) := by show _ = _; rw [openOut, if_pos e1]
    have hq : (Pl.both n c != 0) = true := by rw [bne_iff_ne]; exact e1
    clear e1
    go_enter Tryz.func10, Tryz.ntmps10
    go_wp2_with fail
    refine (both_any n n_tA n_sA n_tc n_sc c c_gA c_bA c_hA c_gc c_bc c_hc _ (by simpa using Hn.out) (by simpa using Hr.out)).mono ?_
    rintro e w1 ⟨rfl, hb⟩
    have HW := Lib.hid ((HB2.out (.cells #[.int .i64 n.stops, .slice n_tA n.tracks.length n_tc, .slice n_sA n.shops.length n_sc] 25) (.cells #[.slice c_gA c.gauges.length c_gc, .int .i64 c.size, .int .i64 c.load, .slice c_bA c.brakes.length c_bc, .slice c_hA c.heats.length c_hc, .bool c.hooks] 28)).trans (hb.mono (by simp; omega)))
    clear hb
    go_wp2_with fail
    go_ret2
    exact ⟨none, 0, by rw [hN.out]; rfl, by rw [hN.out]; exact OwnInts.nil _ _, HW.out⟩
end Go.Proofs.YtpbjpochjagicaaGreatDoorRR
