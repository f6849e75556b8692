/- Walks: met, sooner (LineShortest). -/
import Derived.Test.YtpbjpochjagicaaWq
import Derived.Test.YtpbjpochjagicaaSw
import Derived.BigQuiet
namespace Go.Proofs.Ytpbjpochjagicaa.Pl

/-- met: is a place among those that are left on a way? -/
def metOf (n : Nt) (s g : Int) : Int → Int → List Int → Bool
  | _, _, [] => false
  | f, u, k :: l => if f = s ∧ u = g then true else metOf n s g ((n.tracks.getD k.toNat default).a + (n.tracks.getD k.toNat default).b - f) (n.tracks.getD k.toNat default).gauge l
theorem met_step {n : Nt} {s g f u : Int} {way : List Int} {k : Nat} (hk : k < way.length) : metOf n s g f u (way.drop k) = if f = s ∧ u = g then true else metOf n s g ((n.tracks.getD way[k].toNat default).a + (n.tracks.getD way[k].toNat default).b - f) (n.tracks.getD way[k].toNat default).gauge (way.drop (k + 1)) := by
  rw [List.drop_eq_getElem_cons hk, metOf]
theorem met_run {n : Nt} {c : Cch} {m : Nat} (k : Nat) (s g : Int) : ∀ (l : List Nat) (p : Place), RunOk m (run n c []) p l → metOf n s g p.1 p.2 (ints (l ++ [k])) = decide ((s, g) ∈ visits (run n c []) p l)
  | [], p, _ => by
    simp only [List.nil_append, ints, List.map_cons, List.map_nil, metOf, visits, List.mem_singleton]
    by_cases h : p.1 = s ∧ p.2 = g
    · rw [if_pos h]
      exact (decide_eq_true (by rw [← h.1, ← h.2])).symm
    · rw [if_neg h]
      exact (decide_eq_false (fun e => h (by rw [← e]; exact ⟨rfl, rfl⟩))).symm
  | i :: l, p, h => by
    obtain ⟨_, hz, h⟩ := h
    obtain ⟨_, he, _, f4, _⟩ := run_fine hz
    have ih := met_run k s g l _ h
    have e1 : (n.tracks.getD i default).a + (n.tracks.getD i default).b - p.1 = (run n c [] p i).1.1 := by
      rw [f4]
      simp only
      split
      · rename_i h1; omega
      · rename_i h1; rcases he with h2 | h2 <;> omega
    have e2 : (n.tracks.getD i default).gauge = (run n c [] p i).1.2 := by rw [f4]
    simp only [List.cons_append, ints, List.map_cons, metOf, Int.toNat_natCast] at ih ⊢
    rw [e1, e2, ih, visits]
    by_cases h : p.1 = s ∧ p.2 = g
    · rw [if_pos h]
      exact (decide_eq_true (by rw [← h.1, ← h.2]; exact List.mem_cons_self)).symm
    · rw [if_neg h]
      have hne : (s, g) ≠ p := fun e => h (by rw [← e]; exact ⟨rfl, rfl⟩)
      simp only [List.mem_cons, hne, false_or]
theorem lex_step {l k : List Int} {i : Nat} (h1 : i < l.length) (h2 : i < k.length) : lexLess (l.drop i) (k.drop i) = if l[i] < k[i] then true else if k[i] < l[i] then false else lexLess (l.drop (i + 1)) (k.drop (i + 1)) := by
  rw [List.drop_eq_getElem_cons h1, List.drop_eq_getElem_cons h2, lexLess]
end Go.Proofs.Ytpbjpochjagicaa.Pl
namespace Go.Proofs.Ytpbjpochjagicaa
open Go.RowKit

theorem trk_at {n : Pl.Nt} (h : Pl.check n = 0) {i : Nat} (hi : i < n.tracks.length) : TrkOk n.stops (n.tracks.getD i default) := by
  have e : n.tracks.getD i default = n.tracks[i] := by simp [List.getD_eq_getElem?_getD, List.getElem?_eq_getElem hi]
  rw [e]
  exact (check_tracks h).2 _ (List.getElem_mem hi)
theorem below_again {B : Nat} {w w' : World} (h : Below B w w') (k : Nat) : Below B w (w'.drewN k) := ⟨h.os, h.tape, h.output, h.size, h.block⟩
theorem two_at (w : World) (cs ds : Array Value) (t u : Nat) :
    ((w.alloc (.cells cs t)).alloc (.cells ds u)).heap[w.heap.size]? = some (.cells cs t (0, 0)) ∧ ((w.alloc (.cells cs t)).alloc (.cells ds u)).heap[w.heap.size + 1]? = some (.cells ds u (0, 0)) ∧
      Below w.heap.size w ((w.alloc (.cells cs t)).alloc (.cells ds u)) ∧ ((w.alloc (.cells cs t)).alloc (.cells ds u)).heap.size = w.heap.size + 2 := by
  refine ⟨blk_alloc (heap_alloc_new w _) _, ?_, ((Below.refl _ _).alloc (Nat.le_refl _) _).alloc (by simp) _, by simp⟩
  have := heap_alloc_new (w.alloc (.cells cs t)) (.cells ds u)
  simpa using this

set_option maxRecDepth 20000 in
set_option maxHeartbeats 8000000 in
theorem sooner_any (x y : Wk) (xA yA : Option Addr) (xc yc : Nat) (w : World) (hx : Ints w w.heap.size xA x.way) (hy : Ints w w.heap.size yA y.way) (lx : x.way.length ≤ 1000) (_ly : y.way.length ≤ 1000) :
    Calls Try.prog 57 #[.agg #[.slice xA x.way.length xc, .int .i64 x.stop, .int .i64 x.gauge, .int .i64 x.km, .int .i64 x.turn], .agg #[.slice yA y.way.length yc, .int .i64 y.stop, .int .i64 y.gauge, .int .i64 y.km, .int .i64 y.turn]] w
      fun e w' => e = .returned (.bool (Pl.better ⟨x.way, x.km, x.turn⟩ ⟨y.way, y.km, y.turn⟩)) ∧ Below w.heap.size w w' := by
  obtain ⟨m0, m1, hb, hs⟩ := two_at w #[.slice xA x.way.length xc, .int .i64 x.stop, .int .i64 x.gauge, .int .i64 x.km, .int .i64 x.turn] #[.slice yA y.way.length yc, .int .i64 y.stop, .int .i64 y.gauge, .int .i64 y.km, .int .i64 y.turn] 82 82
  have HX := Lib.hid ((hx.below hb).more (B' := w.heap.size + 2) (by omega))
  have HY := Lib.hid ((hy.below hb).more (B' := w.heap.size + 2) (by omega))
  have HB := Lib.hid hb
  have HS := Lib.hid hs
  obtain ⟨w0, hw0⟩ : ∃ w0, w0 = (w.alloc (.cells #[.slice xA x.way.length xc, .int .i64 x.stop, .int .i64 x.gauge, .int .i64 x.km, .int .i64 x.turn] 82)).alloc (.cells #[.slice yA y.way.length yc, .int .i64 y.stop, .int .i64 y.gauge, .int .i64 y.km, .int .i64 y.turn] 82) := ⟨_, rfl⟩
  rw [← hw0] at m0 m1 HX HY HB HS
  have hkp : ∀ W, Below w0.heap.size w0 W → (W.cell? ⟨w.heap.size, 0, none⟩ = some (.slice xA x.way.length xc) ∧ W.cell? ⟨w.heap.size, 3, none⟩ = some (.int .i64 x.km) ∧ W.cell? ⟨w.heap.size, 4, none⟩ = some (.int .i64 x.turn)) ∧
      (W.cell? ⟨w.heap.size + 1, 0, none⟩ = some (.slice yA y.way.length yc) ∧ W.cell? ⟨w.heap.size + 1, 3, none⟩ = some (.int .i64 y.km) ∧ W.cell? ⟨w.heap.size + 1, 4, none⟩ = some (.int .i64 y.turn)) := fun W hW => by
    have g0 := blk_below m0 hW (lt_of_block m0)
    have g1 := blk_below m1 hW (lt_of_block m1)
    exact ⟨⟨blk_cell g0 0, blk_cell g0 3, blk_cell g0 4⟩, blk_cell g1 0, blk_cell g1 3, blk_cell g1 4⟩
  have HKP := Lib.hid hkp
  have HW0 := Lib.hid hw0
  obtain ⟨⟨x0, x3, x4⟩, y0, y3, y4⟩ := hkp w0 (Below.refl _ _)
  clear hkp m0 m1 hb hs hx hy hw0
  by_cases hkm : x.km = y.km
  · have hk1 : (x.km != y.km) = false := by simp [hkm]
    by_cases htu : x.turn = y.turn
    · have ht1 : (x.turn != y.turn) = false := by simp [htu]
      have hV : Hid (Pl.better ⟨x.way, x.km, x.turn⟩ ⟨y.way, y.km, y.turn⟩ = Pl.lexLess x.way y.way) := by
        show _ = _
        unfold Pl.better
        rw [if_neg (by simpa using hkm), if_neg (by simpa using htu)]
      have HA0 : Hid (Pl.lexLess x.way y.way = Pl.lexLess (x.way.drop 0) (y.way.drop 0)) := rfl
      clear hkm htu
      go_enter Try.func57, Try.ntmps57
      go_upto_region 1 with fail
      rw [← HW0.out]
      go_wp2_with fail
      go_loopw [5] (fun iv wr => ∃ k : Nat, k ≤ x.way.length ∧ k ≤ y.way.length ∧ iv = .int .i64 k ∧ Hid (Pl.lexLess x.way y.way = Pl.lexLess (x.way.drop k) (y.way.drop k)) ∧ Hid (Below w0.heap.size w0 wr)) (fun i _ => x.way.length - (intOf i).toNat)
      case atStart => exact ⟨0, Nat.zero_le _, Nat.zero_le _, rfl, HA0.out, Below.refl _ _⟩
      case round =>
        obtain ⟨k, hkx, hky, rfl, hA, hB⟩ := hrel
        clear x0 x3 x4 y0 y3 y4 HA0
        obtain ⟨⟨x0, x3, x4⟩, y0, y3, y4⟩ := HKP.out wr hB.out
        by_cases h1 : k < x.way.length
        · have h1i : (k : Int) < (x.way.length : Int) := by omega
          by_cases h2 : k < y.way.length
          · have h2i : (k : Int) < (y.way.length : Int) := by omega
            obtain ⟨bx, ox, hxa, hbx, hcx⟩ := HX.out.below (B := w.heap.size + 2) (by have := HS.out; rw [← this]; exact hB.out) k x.way[k] (List.getElem?_eq_getElem h1)
            obtain ⟨by', oy, hya, hby, hcy⟩ := HY.out.below (B := w.heap.size + 2) (by have := HS.out; rw [← this]; exact hB.out) k y.way[k] (List.getElem?_eq_getElem h2)
            have hst := Pl.lex_step h1 h2
            generalize x.way[k] = u at hcx hst
            generalize y.way[k] = v at hcy hst
            subst hxa hya
            have HST := Lib.hid hst
            clear hst hbx hby
            by_cases huv : u = v
            · have hN : Hid (Pl.lexLess x.way y.way = Pl.lexLess (x.way.drop (k + 1)) (y.way.drop (k + 1))) := by show _ = _; rw [hA.out, HST.out, huv, if_neg (by omega), if_neg (by omega)]
              subst huv
              clear HST hA
              go_wp2_with fail
              go_quiet (fail)
              go_wp2_with fail
              go_roundw
              case rel => exact ⟨k + 1, by omega, by omega, by go_num, hN, below_again hB.out _⟩
              case measure => simp [intOf]; omega
            · have hN : Hid (Pl.lexLess x.way y.way = decide (u < v)) := by
                show _ = _
                rw [hA.out, HST.out]
                by_cases h : u < v
                · rw [if_pos h]; exact (decide_eq_true h).symm
                · rw [if_neg h, if_pos (by omega)]; exact (decide_eq_false h).symm
              have hne : (u != v) = true := by rw [bne_iff_ne]; exact huv
              have HWx := Lib.hid (HB.out.trans (hB.out.mono (by have := HS.out; omega)))
              clear HST hA
              go_wp2_with fail
              go_quiet (fail)
              go_wp2_with fail
              go_quiet (fail)
              go_wp2_with fail
              go_ret
              exact ⟨by rw [hV.out, hN.out]; rfl, below_again (below_again HWx.out _) _⟩
          · have h2i : decide ((k : Int) < (y.way.length : Int)) = false := decide_eq_false (by omega)
            have hN : Hid (Pl.lexLess x.way y.way = decide (x.way.length < y.way.length)) := by
              show _ = _
              rw [hA.out, List.drop_eq_nil_of_le (by omega : y.way.length ≤ k), List.drop_eq_getElem_cons h1, decide_eq_false (by omega : ¬ x.way.length < y.way.length)]
              rfl
            have HWx := Lib.hid (HB.out.trans (hB.out.mono (by have := HS.out; omega)))
            clear hA
            go_wp2_with fail
            go_ret
            exact ⟨by rw [hV.out, hN.out]; rfl, HWx.out⟩
        · have hN : Hid (Pl.lexLess x.way y.way = decide (x.way.length < y.way.length)) := by
            show _ = _
            rw [hA.out, List.drop_eq_nil_of_le (by omega : x.way.length ≤ k)]
            by_cases h2 : k < y.way.length
            · rw [List.drop_eq_getElem_cons h2, decide_eq_true (by omega : x.way.length < y.way.length)]
              rfl
            · rw [List.drop_eq_nil_of_le (by omega : y.way.length ≤ k), decide_eq_false (by omega : ¬ x.way.length < y.way.length)]
              rfl
          have h1i : decide ((k : Int) < (x.way.length : Int)) = false := decide_eq_false (by omega)
          have HWx := Lib.hid (HB.out.trans (hB.out.mono (by have := HS.out; omega)))
          clear hA
          go_wp2_with fail
          go_ret
          exact ⟨by rw [hV.out, hN.out]; rfl, HWx.out⟩
    · have hV : Hid (Pl.better ⟨x.way, x.km, x.turn⟩ ⟨y.way, y.km, y.turn⟩ = decide (x.turn < y.turn)) := by
        show _ = _
        unfold Pl.better
        rw [if_neg (by simpa using hkm), if_pos htu]
      have ht1 : (x.turn != y.turn) = true := by rw [bne_iff_ne]; exact htu
      clear hkm htu
      go_enter Try.func57, Try.ntmps57
      go_upto_region 1 with fail
      rw [← HW0.out]
      go_wp2_with fail
      go_ret
      exact ⟨by rw [hV.out]; rfl, HB.out⟩
  · have hV : Hid (Pl.better ⟨x.way, x.km, x.turn⟩ ⟨y.way, y.km, y.turn⟩ = decide (x.km < y.km)) := by
      show _ = _
      unfold Pl.better
      rw [if_pos hkm]
    have hk1 : (x.km != y.km) = true := by rw [bne_iff_ne]; exact hkm
    clear hkm
    go_enter Try.func57, Try.ntmps57
    go_upto_region 1 with fail
    rw [← HW0.out]
    go_wp2_with fail
    go_ret
    exact ⟨by rw [hV.out]; rfl, HB.out⟩

set_option maxRecDepth 20000 in
set_option maxHeartbeats 8000000 in
theorem met_any (n : Pl.Nt) (n_tA n_sA : Option Addr) (n_tc n_sc : Nat) (x : Wk) (xA : Option Addr) (xc : Nat) (fr g : Int) (w : World) (hn : NReads w w.heap.size n n_tA n_sA n_tc n_sc) (hx : Ints w w.heap.size xA x.way) (lx : x.way.length ≤ 1000) (hway : ∀ k ∈ x.way, 0 ≤ k ∧ k < (n.tracks.length : Int))
    (hck : Pl.check n = 0) (hf0 : 0 ≤ fr) (hf1 : fr ≤ 5) :
    Calls Try.prog 98 #[.agg #[.int .i64 n.stops, .slice n_tA n.tracks.length n_tc, .slice n_sA n.shops.length n_sc], .agg #[.slice xA x.way.length xc, .int .i64 x.stop, .int .i64 x.gauge, .int .i64 x.km, .int .i64 x.turn], .int .i64 fr, .int .i64 g] w
      fun e w' => e = .returned (.bool (Pl.metOf n x.stop x.gauge fr g x.way)) ∧ Below w.heap.size w w' := by
  obtain ⟨m0, m1, hb, hs⟩ := two_at w #[.int .i64 n.stops, .slice n_tA n.tracks.length n_tc, .slice n_sA n.shops.length n_sc] #[.slice xA x.way.length xc, .int .i64 x.stop, .int .i64 x.gauge, .int .i64 x.km, .int .i64 x.turn] 27 82
  have HX := Lib.hid ((hx.below hb).more (B' := w.heap.size + 2) (by omega))
  have HN := Lib.hid ((hn.below hb).more (B' := w.heap.size + 2) (by omega))
  have HB := Lib.hid hb
  have HS := Lib.hid hs
  obtain ⟨w0, hw0⟩ : ∃ w0, w0 = (w.alloc (.cells #[.int .i64 n.stops, .slice n_tA n.tracks.length n_tc, .slice n_sA n.shops.length n_sc] 27)).alloc (.cells #[.slice xA x.way.length xc, .int .i64 x.stop, .int .i64 x.gauge, .int .i64 x.km, .int .i64 x.turn] 82) := ⟨_, rfl⟩
  rw [← hw0] at m0 m1 HX HN HB HS
  have hkp : ∀ W, Below w0.heap.size w0 W → (W.cell? ⟨w.heap.size, 1, none⟩ = some (.slice n_tA n.tracks.length n_tc)) ∧
      (W.cell? ⟨w.heap.size + 1, 0, none⟩ = some (.slice xA x.way.length xc) ∧ W.cell? ⟨w.heap.size + 1, 1, none⟩ = some (.int .i64 x.stop) ∧ W.cell? ⟨w.heap.size + 1, 2, none⟩ = some (.int .i64 x.gauge)) := fun W hW => by
    have g0 := blk_below m0 hW (lt_of_block m0)
    have g1 := blk_below m1 hW (lt_of_block m1)
    exact ⟨blk_cell g0 1, blk_cell g1 0, blk_cell g1 1, blk_cell g1 2⟩
  have HKP := Lib.hid hkp
  have HW0 := Lib.hid hw0
  have HCK := Lib.hid hck
  have hst6 := check_stops hck
  obtain ⟨z1, x0, x1, x2⟩ := hkp w0 (Below.refl _ _)
  have HA0 : Hid (Pl.metOf n x.stop x.gauge fr g x.way = Pl.metOf n x.stop x.gauge fr g (x.way.drop 0)) := rfl
  clear hkp m0 m1 hb hs hx hn hw0 hck
  go_enter Try.func98, Try.ntmps98
  go_upto_region 1 with fail
  rw [← HW0.out]
  go_wp2_with fail
  go_loopw [2, 3, 9] (fun fv gv iv wr => ∃ (k : Nat) (f u : Int), k ≤ x.way.length ∧ fv = .int .i64 f ∧ gv = .int .i64 u ∧ iv = .int .i64 k ∧ -(20 * ((k : Int) + 1)) ≤ f ∧ f ≤ 20 * ((k : Int) + 1) ∧ Hid (Pl.metOf n x.stop x.gauge fr g x.way = Pl.metOf n x.stop x.gauge f u (x.way.drop k)) ∧ Hid (Below w0.heap.size w0 wr)) (fun _ _ i _ => x.way.length - (intOf i).toNat)
  case atStart => exact ⟨0, fr, g, Nat.zero_le _, rfl, rfl, rfl, by omega, by omega, HA0.out, Below.refl _ _⟩
  case round =>
    obtain ⟨k, f, u, hk, rfl, rfl, rfl, hfa, hfb, hA, hB⟩ := hrel
    clear z1 x0 x1 x2 HA0
    obtain ⟨z1, x0, x1, x2⟩ := HKP.out wr hB.out
    by_cases h1 : k < x.way.length
    · have h1i : (k : Int) < (x.way.length : Int) := by omega
      obtain ⟨bx, ox, hxa, hbx, hcx⟩ := HX.out.below (B := w.heap.size + 2) (by have := HS.out; rw [← this]; exact hB.out) k x.way[k] (List.getElem?_eq_getElem h1)
      have hin := hway _ (List.getElem_mem h1)
      have hst := Pl.met_step (n := n) (s := x.stop) (g := x.gauge) (f := f) (u := u) h1
      generalize x.way[k] = q at hcx hst hin
      subst hxa
      obtain ⟨m, rfl⟩ : ∃ m : Nat, q = m := ⟨q.toNat, by omega⟩
      rw [Int.toNat_natCast] at hst
      have hm : m < n.tracks.length := by omega
      have hmi : (m : Int) < (n.tracks.length : Int) := by omega
      have e0 : n.tracks.getD m default = n.tracks[m] := by simp [List.getD_eq_getElem?_getD, List.getElem?_eq_getElem hm]
      have hok := trk_at HCK.out hm
      rw [e0] at hst hok
      obtain ⟨bt, ot, hAt, hbt, hct⟩ := (HN.out.tracks.below (B := w.heap.size + 2) (by have := HS.out; rw [← this]; exact hB.out)) m n.tracks[m] (List.getElem?_eq_getElem hm)
      subst hAt
      generalize n.tracks[m] = t at hct hst hok
      obtain ⟨t0, t1, t2, t3, t4, t5, t6, t7, t8⟩ := trk_cells (w := wr) (b := bt) (o := ot + m * 9) (fun i v hv => hct i v hv)
      have ha0 := hok.a0
      have ha1 := hok.a1
      have hb0 := hok.b0
      have hb1 := hok.b1
      have HST := Lib.hid hst
      have hsz := hB.out.size
      rw [HS.out] at hsz
      have hl0 : w.heap.size < wr.heap.size := by omega
      have hl1 : w.heap.size + 1 < wr.heap.size := by omega
      have hl2 : bx < wr.heap.size := by omega
      have hl3 : bt < wr.heap.size := by omega
      clear hct hst e0 hbx hbt hok hsz
      by_cases hmet : f = x.stop ∧ u = x.gauge
      · have hN : Hid (Pl.metOf n x.stop x.gauge fr g x.way = true) := by show _ = _; rw [hA.out, HST.out, if_pos hmet]
        obtain ⟨rfl, rfl⟩ := hmet
        have HWx := Lib.hid (HB.out.trans (hB.out.mono (by have := HS.out; omega)))
        clear HST hA
        go_wp2_with fail
        go_ret
        exact ⟨by rw [hN.out]; rfl, HWx.out⟩
      · have hN : Hid (Pl.metOf n x.stop x.gauge fr g x.way = Pl.metOf n x.stop x.gauge (t.a + t.b - f) t.gauge (x.way.drop (k + 1))) := by show _ = _; rw [hA.out, HST.out, if_neg hmet]
        clear HST hA
        have HWr := Lib.hid hB.out
        clear hB
        by_cases hf : f = x.stop
        · have hu : (u == x.gauge) = false := by rw [beq_eq_false_iff_ne]; exact fun e => hmet ⟨hf, e⟩
          subst hf
          clear hmet
          go_wp2_with fail
          go_region
          go_wp2_with fail
          go_quiet (fail)
          go_wp2_with fail
          go_roundw
          case rel => exact ⟨k + 1, t.a + t.b - x.stop, t.gauge, by omega, by go_num, rfl, by go_num, by push_cast; omega, by push_cast; omega, hN, Lib.hid (by (repeat (first | (with_reducible exact HWr.out) | (with_reducible refine Below.drew ?_) | (with_reducible refine below_again ?_ _) | (with_reducible refine Below.alloc ?_ ?_ _; rotate_left; focus (exact HWr.out.size)))))⟩
          case measure => simp [intOf]; omega
        · have hu : (f == x.stop) = false := by rw [beq_eq_false_iff_ne]; exact hf
          clear hmet hf
          go_wp2_with fail
          go_region
          go_wp2_with fail
          go_quiet (fail)
          go_wp2_with fail
          go_roundw
          case rel => exact ⟨k + 1, t.a + t.b - f, t.gauge, by omega, by go_num, rfl, by go_num, by push_cast; omega, by push_cast; omega, hN, Lib.hid (by (repeat (first | (with_reducible exact HWr.out) | (with_reducible refine Below.drew ?_) | (with_reducible refine below_again ?_ _) | (with_reducible refine Below.alloc ?_ ?_ _; rotate_left; focus (exact HWr.out.size)))))⟩
          case measure => simp [intOf]; omega
    · have hN : Hid (Pl.metOf n x.stop x.gauge fr g x.way = false) := by show _ = _; rw [hA.out, List.drop_eq_nil_of_le (by omega)]; rfl
      have HWx := Lib.hid (HB.out.trans (hB.out.mono (by have := HS.out; omega)))
      clear hA
      go_wp2_with fail
      go_ret
      exact ⟨by rw [hN.out]; rfl, HWx.out⟩
end Go.Proofs.Ytpbjpochjagicaa
