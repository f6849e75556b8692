/- Walks: the net and the car of the examples; equal lists. Walks: comparing lists. Walks: the better of two trips. -/
import Derived.Test.YtpbjpochjagicaaGreatDoorRRW17
namespace Go.Proofs.YtpbjpochjagicaaGreatDoorRR
open Go.RowKit

def CarPost (d : Pl.Cch) (w : World) (e : Ending) (w' : World) : Prop :=
  ∃ (d_gA d_bA d_hA : Option Addr) (d_gc d_bc d_hc : Nat), e = .returned (.agg #[.slice d_gA d.gauges.length d_gc, .int .i64 d.size, .int .i64 d.load, .slice d_bA d.brakes.length d_bc, .slice d_hA d.heats.length d_hc, .bool d.hooks]) ∧ CReads w' w'.heap.size d d_gA d_bA d_hA d_gc d_bc d_hc ∧ Below w.heap.size w w'
def NetPost (n : Pl.Nt) (w : World) (e : Ending) (w' : World) : Prop :=
  ∃ (n_tA n_sA : Option Addr) (n_tc n_sc : Nat), e = .returned (.agg #[.int .i64 n.stops, .slice n_tA n.tracks.length n_tc, .slice n_sA n.shops.length n_sc]) ∧ NReads w' w'.heap.size n n_tA n_sA n_tc n_sc ∧ Below w.heap.size w w'

theorem ints_blk {w : World} {g B : Nat} {t : TypeId} {xs : List Int} (h : w.heap[g]? = some (.cells (xs.map (Value.int .i64)).toArray t (0, 0))) (hg : g < B) : Ints w B (some ⟨g, 0, none⟩) xs := fun k x hx =>
  ⟨g, 0, rfl, hg, by rw [cell_of_row w g (0 + k) _ t (0, 0) h]; simp [hx]⟩
theorem trks_blk {w : World} {g B : Nat} {t : TypeId} {ts : List Pl.Trk} {cs : Array Value} (h : w.heap[g]? = some (.cells cs t (0, 0))) (hg : g < B)
    (hc : ∀ k u, ts[k]? = some u → ∀ j, j < 9 → cs[0 + k * 9 + j]? = (trkCells u)[j]?) : Trks w B (some ⟨g, 0, none⟩) ts := fun k u hu =>
  ⟨g, 0, rfl, hg, fun j v hv => by
    have hj : j < 9 := by have := (List.getElem?_eq_some_iff.1 hv).1; simpa [trkCells] using this
    rw [cell_of_row w g _ cs t (0, 0) h, hc k u hu j hj, hv]⟩
theorem netN_cells : ∀ k u, Pl.netN.tracks[k]? = some u → ∀ j, j < 9 → (#[.int .i64 0, .int .i64 1, .int .i64 10, .int .i64 1, .int .i64 5, .int .i64 1, .int .i64 0, .int .i64 15, .bool false,
    .int .i64 1, .int .i64 2, .int .i64 5, .int .i64 2, .int .i64 5, .int .i64 1, .int .i64 0, .int .i64 15, .bool false,
    .int .i64 0, .int .i64 2, .int .i64 20, .int .i64 1, .int .i64 3, .int .i64 0, .int .i64 0, .int .i64 15, .bool false,
    .int .i64 2, .int .i64 3, .int .i64 4, .int .i64 2, .int .i64 6, .int .i64 0, .int .i64 1, .int .i64 12, .bool true] : Array Value)[0 + k * 9 + j]? = (trkCells u)[j]? := by
  intro k u hu j hj
  have hk : k < 4 := (List.getElem?_eq_some_iff.1 hu).1
  have hk' : k = 0 ∨ k = 1 ∨ k = 2 ∨ k = 3 := by omega
  have hj' : j = 0 ∨ j = 1 ∨ j = 2 ∨ j = 3 ∨ j = 4 ∨ j = 5 ∨ j = 6 ∨ j = 7 ∨ j = 8 := by omega
  rcases hk' with rfl | rfl | rfl | rfl <;> (injection hu with hu; subst hu; rcases hj' with rfl | rfl | rfl | rfl | rfl | rfl | rfl | rfl | rfl <;> rfl)

set_option maxHeartbeats 1000000 in
theorem car_any (w : World) : Calls Tryz.prog 5 #[] w (CarPost Pl.carK w) := by
  go_enter Tryz.func5, Tryz.ntmps5
  go_wp2_with fail
  refine bodyPost_ret (v := .agg #[.slice (some ⟨w.heap.size + 1, 0, none⟩) 2 2, .int .i64 4, .int .i64 12, .slice (some ⟨w.heap.size + 1 + 1, 0, none⟩) 1 1, .slice none 0 0, .bool false]) (by simp [results, Tryz.results5, go_sem]) rfl ?_
  obtain ⟨M1, M0, M2⟩ := mid_blk w #[.slice (some ⟨w.heap.size + 1, 0, none⟩) 2 2, .int .i64 4, .int .i64 12, .slice (some ⟨w.heap.size + 1 + 1, 0, none⟩) 1 1, .slice none 0 0, .bool false] #[.int .i64 1, .int .i64 2] #[.int .i64 1] 28 3 3
  exact ⟨some ⟨w.heap.size + 1, 0, none⟩, some ⟨w.heap.size + 1 + 1, 0, none⟩, none, 2, 1, 0, rfl, ⟨ints_blk (xs := [1, 2]) M1 (by simp), ints_blk (xs := [1]) M2 (by simp), Ints.nil _ _ _, by decide, by decide, by decide⟩, (((Below.refl _ _).alloc (Nat.le_refl _) _).alloc (by simp) _).alloc (by simp; omega) _⟩

set_option maxHeartbeats 1000000 in
theorem net_any (w : World) : Calls Tryz.prog 4 #[] w (NetPost Pl.netN w) := by
  go_enter Tryz.func4, Tryz.ntmps4
  go_wp2_with fail
  refine bodyPost_ret (v := .agg #[.int .i64 4, .slice (some ⟨w.heap.size + 1 + 1, 0, none⟩) 4 4, .slice (some ⟨w.heap.size + 1, 0, none⟩) 1 1]) (by simp [results, Tryz.results4, go_sem]) rfl ?_
  obtain ⟨M1, M0, M2⟩ := mid_blk w #[.int .i64 4, .slice (some ⟨w.heap.size + 1 + 1, 0, none⟩) 4 4, .slice (some ⟨w.heap.size + 1, 0, none⟩) 1 1] #[.int .i64 1] #[.int .i64 0, .int .i64 1, .int .i64 10, .int .i64 1, .int .i64 5, .int .i64 1, .int .i64 0, .int .i64 15, .bool false,
    .int .i64 1, .int .i64 2, .int .i64 5, .int .i64 2, .int .i64 5, .int .i64 1, .int .i64 0, .int .i64 15, .bool false,
    .int .i64 0, .int .i64 2, .int .i64 20, .int .i64 1, .int .i64 3, .int .i64 0, .int .i64 0, .int .i64 15, .bool false,
    .int .i64 2, .int .i64 3, .int .i64 4, .int .i64 2, .int .i64 6, .int .i64 0, .int .i64 1, .int .i64 12, .bool true] 25 3 31
  exact ⟨some ⟨w.heap.size + 1 + 1, 0, none⟩, some ⟨w.heap.size + 1, 0, none⟩, 4, 1, rfl, ⟨trks_blk M2 (by simp) netN_cells, ints_blk (xs := [1]) M1 (by simp), by decide, by decide⟩, (((Below.refl _ _).alloc (Nat.le_refl _) _).alloc (by simp) _).alloc (by simp; omega) _⟩

set_option maxHeartbeats 1000000 in
theorem equal_any (A B : Option Addr) (ca cb : Nat) (xs ys : List Int) (w : World) (hx : Ints w w.heap.size A xs) (hy : Ints w w.heap.size B ys) (hl : xs.length ≤ 1000) (hl2 : ys.length ≤ 1000) :
    Calls Tryz.prog 11 #[.slice A xs.length ca, .slice B ys.length cb] w fun e w' => e = .returned (.bool (decide (xs = ys))) ∧ Below w.heap.size w w' := by
  by_cases hxy : xs.length = ys.length
  · have hb : ((xs.length : Int) != (ys.length : Int)) = false := by simp [hxy]
    have hst : ∀ k, k < xs.length → (xs.drop k = ys.drop k ↔ xs[k]! = ys[k]! ∧ xs.drop (k + 1) = ys.drop (k + 1)) := by
      intro k hk
      rw [List.drop_eq_getElem_cons hk, List.drop_eq_getElem_cons (show k < ys.length by omega)]
      rw [getElem!_pos xs k hk, getElem!_pos ys k (by omega), List.cons.injEq]
    by_cases hx0 : xs = []
    · subst hx0
      have hys : ys = [] := by cases ys with | nil => rfl | cons => simp at hxy
      subst hys
      clear hst hb
      go_enter Tryz.func11, Tryz.ntmps11
      go_wp2_with fail
      go_loop [5] (fun i => i = .int .i64 0) (fun _ => 0)
      case atStart => rfl
      case round =>
        subst hrel
        go_wp2_with fail
        go_ret
        exact ⟨rfl, Below.refl _ _⟩
    · obtain ⟨b, off, rfl, hbl, hc⟩ : ∃ b off, A = some ⟨b, off, none⟩ ∧ b < w.heap.size ∧ ∀ (j : Nat) (hj : j < xs.length), w.cell? ⟨b, off + j, none⟩ = some (.int .i64 xs[j]) := by
        rcases hx.form with h | h
        · exact absurd h hx0
        · exact h
      obtain ⟨b2, off2, rfl, hbl2, hc2⟩ : ∃ b2 off2, B = some ⟨b2, off2, none⟩ ∧ b2 < w.heap.size ∧ ∀ (j : Nat) (hj : j < ys.length), w.cell? ⟨b2, off2 + j, none⟩ = some (.int .i64 ys[j]) := by
        rcases hy.form with h | h
        · subst h; exact absurd (List.eq_nil_of_length_eq_zero hxy) hx0
        · exact h
      have HE : Hid (decide (xs = ys) = decide (xs.drop 0 = ys.drop 0)) := rfl
      generalize hd : decide (xs = ys) = E at HE ⊢
      clear hd hx hy
      go_enter Tryz.func11, Tryz.ntmps11
      go_wp2_with fail
      go_loopw [5] (fun i wr => ∃ k : Nat, k ≤ xs.length ∧ i = .int .i64 k ∧ Hid (E = decide (xs.drop k = ys.drop k)) ∧ Below w.heap.size w wr) (fun i _ => xs.length - (intOf i).toNat)
      case atStart => exact ⟨0, by omega, rfl, HE, Below.refl _ _⟩
      case round =>
        obtain ⟨k, hk, rfl, hE, hbw⟩ := hrel
        clear HE
        by_cases hkl : k < xs.length
        · have hs := hst k hkl
          have c1 := (hbw.cell (p := ⟨b, off + k, none⟩) hbl).trans (hc k hkl)
          have c2 := (hbw.cell (p := ⟨b2, off2 + k, none⟩) hbl2).trans (hc2 k (by omega))
          rw [getElem!_pos xs k hkl, getElem!_pos ys k (by omega)] at hs
          have l1 : b < wr.heap.size := by have := hbw.size; omega
          have l2 : b2 < wr.heap.size := by have := hbw.size; omega
          have k1 : (k : Int) < (xs.length : Int) := by omega
          have k2 : (k : Int) < (ys.length : Int) := by omega
          generalize xs[k] = x at c1 hs
          generalize ys[k]'(by omega) = y at c2 hs
          have Hs := Lib.hid hs; have Hbw := Lib.hid hbw
          clear hs hst hc hc2 hbw
          by_cases hxy2 : x = y
          · have hN : Hid (E = decide (xs.drop (k + 1) = ys.drop (k + 1))) := by
              show _ = _
              rw [hE.out, decide_eq_decide, Hs.out]
              exact ⟨fun h => h.2, fun h => ⟨hxy2, h⟩⟩
            have e1 : (x != y) = false := by simp [hxy2]
            clear hxy2
            go_wp2_with fail
            go_quiet (fail)
            go_wp2_with fail
            go_roundw
            case rel => exact ⟨k + 1, by omega, by go_num, hN, below_drewN Hbw.out _⟩
            case measure => simp [intOf]; omega
          · have hN : Hid (E = false) := by
              show _ = _
              rw [hE.out, decide_eq_false_iff_not, Hs.out]
              exact fun h => hxy2 h.1
            have e1 : (x != y) = true := by simp [hxy2]
            clear hxy2
            go_wp2_with fail
            go_quiet (fail)
            go_wp2_with fail
            go_ret
            exact ⟨by rw [hN.out]; rfl, below_drewN Hbw.out _⟩
        · obtain rfl : k = xs.length := by omega
          have hN : Hid (E = true) := by
            show _ = _
            rw [hE.out, decide_eq_true_iff, List.drop_length, hxy, List.drop_length]
          clear hE hst hc hc2
          go_wp2_with fail
          go_ret
          exact ⟨by rw [hN.out]; rfl, hbw⟩
  · have hb : ((xs.length : Int) != (ys.length : Int)) = true := by simp; omega
    have hne : decide (xs = ys) = false := by rw [decide_eq_false_iff_not]; intro h; exact hxy (by rw [h])
    have HN := Lib.hid hne
    clear hne
    go_enter Tryz.func11, Tryz.ntmps11
    go_wp2_with fail
    go_ret
    exact ⟨by rw [HN.out]; rfl, Below.refl _ _⟩
end Go.Proofs.YtpbjpochjagicaaGreatDoorRR

namespace Go.Proofs.YtpbjpochjagicaaGreatDoorRR
open Go.RowKit

def cmpI (x y : Int) : Int := if x < y then -1 else if y < x then 1 else 0
def cmpL : List Int → List Int → Int
  | [], [] => 0
  | [], _ :: _ => -1
  | _ :: _, [] => 1
  | x :: l, y :: k => if cmpI x y ≠ 0 then cmpI x y else cmpL l k
theorem cmpL_lex : ∀ (l k : List Int), decide (cmpL l k < 0) = Pl.lexLess l k
  | [], [] => rfl
  | [], _ :: _ => rfl
  | _ :: _, [] => rfl
  | x :: l, y :: k => by
    rw [cmpL, Pl.lexLess, cmpI]
    by_cases h1 : x < y
    · simp [h1]
    · by_cases h2 : y < x
      · simp [h1, h2]
      · simp [h1, h2, cmpL_lex l k]

set_option maxHeartbeats 1000000 in
theorem cmp_any (x y : Int) (w : World) : Calls Tryz.prog 81 #[.int .i64 x, .int .i64 y] w fun e w' => e = .returned (.int .i64 (cmpI x y)) ∧ w = w' := by
  by_cases h1 : x < y
  · have HN : Hid (cmpI x y = -1) := by show _ = _; rw [cmpI, if_pos h1]
    go_enter Tryz.func81, Tryz.ntmps81
    go_wp2
    go_ret
    exact ⟨by rw [HN.out]; rfl, rfl⟩
  · by_cases h2 : y < x
    · have HN : Hid (cmpI x y = 1) := by show _ = _; rw [cmpI, if_neg h1, if_pos h2]
      go_enter Tryz.func81, Tryz.ntmps81
      go_wp2
      go_ret
      exact ⟨by rw [HN.out]; rfl, rfl⟩
    · have HN : Hid (cmpI x y = 0) := by show _ = _; rw [cmpI, if_neg h1, if_neg h2]
      go_enter Tryz.func81, Tryz.ntmps81
      go_wp2
      go_ret
      exact ⟨by rw [HN.out]; rfl, rfl⟩
set_option maxRecDepth 100000 in
set_option maxHeartbeats 2000000 in
theorem compare_any (A B : Option Addr) (ca cb : Nat) (xs ys : List Int) (w : World) (hx : Ints w w.heap.size A xs) (hy : Ints w w.heap.size B ys) (hl : xs.length ≤ 1000) (hl2 : ys.length ≤ 1000) :
    Calls Tryz.prog 57 #[.slice A xs.length ca, .slice B ys.length cb] w fun e w' => e = .returned (.int .i64 (cmpL xs ys)) ∧ w = w' := by
  have HE : Hid (cmpL xs ys = cmpL (xs.drop 0) (ys.drop 0)) := rfl
  have Hx := Lib.hid hx; have Hy := Lib.hid hy
  generalize cmpL xs ys = E at HE ⊢
  clear hx hy
  have hend : Hid (∀ k, k = xs.length → k ≤ ys.length → (E = cmpL (xs.drop k) (ys.drop k)) → ((xs.length < ys.length → E = -1) ∧ (¬ xs.length < ys.length → E = 0))) := by
    intro k hk hky hE
    subst hk
    rw [List.drop_length] at hE
    refine ⟨fun h => ?_, fun h => ?_⟩
    · rw [hE, List.drop_eq_getElem_cons h]; rfl
    · rw [hE, List.drop_eq_nil_iff.2 (by omega)]; rfl
  by_cases hx0 : xs = []
  · subst hx0
    have hz := hend.out 0 rfl (Nat.zero_le _) HE.out
    simp only [List.length_nil] at hz ⊢
    have HZ := Lib.hid hz
    clear hz hend HE
    by_cases hlt : (0 : Int) < (ys.length : Int)
    · have hN : Hid (E = -1) := HZ.out.1 (by omega)
      clear HZ
      go_enter Tryz.func57, Tryz.ntmps57
      go_wp2_with fail
      go_loop [5, 6, 7, 8, 11] (fun u5 u6 u7 u8 i => i = .int .i64 0) (fun _ _ _ _ _ => 0)
      case atStart => rfl
      case round =>
        subst hrel
        go_wp2_with fail
        go_ret
        exact ⟨by rw [hN.out]; rfl, rfl⟩
    · have hN : Hid (E = 0) := HZ.out.2 (by omega)
      clear HZ
      go_enter Tryz.func57, Tryz.ntmps57
      go_wp2_with fail
      go_loop [5, 6, 7, 8, 11] (fun u5 u6 u7 u8 i => i = .int .i64 0) (fun _ _ _ _ _ => 0)
      case atStart => rfl
      case round =>
        subst hrel
        go_wp2_with fail
        go_ret
        exact ⟨by rw [hN.out]; rfl, rfl⟩
  · obtain ⟨b, off, rfl, hbl, hc⟩ : ∃ b off, A = some ⟨b, off, none⟩ ∧ b < w.heap.size ∧ ∀ (j : Nat) (hj : j < xs.length), w.cell? ⟨b, off + j, none⟩ = some (.int .i64 xs[j]) := by
      rcases Hx.out.form with h | h
      · exact absurd h hx0
      · exact h
    go_enter Tryz.func57, Tryz.ntmps57
    go_wp2_with fail
    go_loop [5, 6, 7, 8, 11] (fun u5 u6 u7 u8 i => ∃ k : Nat, k ≤ xs.length ∧ k ≤ ys.length ∧ i = .int .i64 k ∧ Hid (E = cmpL (xs.drop k) (ys.drop k))) (fun _ _ _ _ i => xs.length - (intOf i).toNat)
    case atStart => exact ⟨0, by omega, by omega, rfl, HE⟩
    case round =>
      obtain ⟨k, hk, hky, rfl, hE⟩ := hrel
      clear HE
      by_cases hkl : k < xs.length
      · have c1 := hc k hkl
        have k1 : (k : Int) < (xs.length : Int) := by omega
        by_cases hkl2 : k < ys.length
        · obtain ⟨b2, off2, rfl, hbl2, c2⟩ : ∃ b2 off2, B = some ⟨b2, off2, none⟩ ∧ b2 < w.heap.size ∧ w.cell? ⟨b2, off2 + k, none⟩ = some (.int .i64 ys[k]) := Hy.out k ys[k] (List.getElem?_eq_getElem hkl2)
          have k2 : (k : Int) < (ys.length : Int) := by omega
          have hst : cmpL (xs.drop k) (ys.drop k) = if cmpI xs[k] ys[k] ≠ 0 then cmpI xs[k] ys[k] else cmpL (xs.drop (k + 1)) (ys.drop (k + 1)) := by
            rw [List.drop_eq_getElem_cons hkl, List.drop_eq_getElem_cons hkl2, cmpL]
          generalize xs[k] = x at c1 hst
          generalize ys[k] = y at c2 hst
          have Hcmp := Lib.hid (cmp_any x y w)
          generalize cmpI x y = r at hst Hcmp
          by_cases hr : r = 0
          · have hN : Hid (E = cmpL (xs.drop (k + 1)) (ys.drop (k + 1))) := by show _ = _; rw [hE.out, hst, if_neg (by simp [hr])]
            have e1 : (r != 0) = false := by simp [hr]
            clear hr hst hE hend hc
            go_wp2_with (go_at_call 81; refine Hcmp.out.mono ?_; rintro e w1 ⟨rfl, rfl⟩)
            go_round
            case rel => exact ⟨k + 1, by omega, by omega, by go_num, hN⟩
            case measure => simp [intOf]; omega
          · have hN : Hid (E = r) := by show _ = _; rw [hE.out, hst, if_pos hr]
            have e1 : (r != 0) = true := by simp [hr]
            clear hr hst hE hend hc
            go_wp2_with (go_at_call 81; refine Hcmp.out.mono ?_; rintro e w1 ⟨rfl, rfl⟩)
            go_ret
            exact ⟨by rw [hN.out]; rfl, rfl⟩
        · have hky2 : k = ys.length := by omega
          have hN : Hid (E = 1) := by
            show _ = _
            rw [hE.out, List.drop_eq_getElem_cons hkl, show ys.drop k = [] from List.drop_eq_nil_iff.2 (by omega)]; rfl
          clear hE hend
          go_wp2_with fail
          go_ret
          exact ⟨by rw [hN.out]; rfl, rfl⟩
      · have hkx : k = xs.length := by omega
        have hz := hend.out k hkx hky hE.out
        have HZ := Lib.hid hz
        have k1 : ¬ (k : Int) < (xs.length : Int) := by omega
        clear hz hend hE
        by_cases hlt : (xs.length : Int) < (ys.length : Int)
        · have hN : Hid (E = -1) := HZ.out.1 (by omega)
          clear HZ
          go_wp2_with fail
          go_ret
          exact ⟨by rw [hN.out]; rfl, rfl⟩
        · have hN : Hid (E = 0) := HZ.out.2 (by omega)
          clear HZ
          go_wp2_with fail
          go_ret
          exact ⟨by rw [hN.out]; rfl, rfl⟩
end Go.Proofs.YtpbjpochjagicaaGreatDoorRR

namespace Go.Proofs.YtpbjpochjagicaaGreatDoorRR
open Go.RowKit

set_option maxRecDepth 100000 in
set_option maxHeartbeats 1000000 in
theorem better_any (s t : Pl.Trip) (sA tA : Option Addr) (sc tc : Nat) (w : World) (hs : Ints w w.heap.size sA s.way) (ht : Ints w w.heap.size tA t.way) (hl : s.way.length ≤ 1000) (hl2 : t.way.length ≤ 1000) :
    Calls Tryz.prog 35 #[.agg #[.slice sA s.way.length sc, .int .i64 s.km, .int .i64 s.changes], .agg #[.slice tA t.way.length tc, .int .i64 t.km, .int .i64 t.changes]] w
      fun e w' => e = .returned (.bool (Pl.better s t)) ∧ Below w.heap.size w w' := by
  have hb : Below w.heap.size w ((w.alloc (.cells #[.slice sA s.way.length sc, .int .i64 s.km, .int .i64 s.changes] 72)).alloc (.cells #[.slice tA t.way.length tc, .int .i64 t.km, .int .i64 t.changes] 72)) := ((Below.refl _ _).alloc (Nat.le_refl _) _).alloc (by simp) _
  have HC := Lib.hid (compare_any sA tA sc tc s.way t.way _ ((hs.below hb).more (by simp; omega)) ((ht.below hb).more (by simp; omega)) hl hl2)
  have HB := Lib.hid hb
  clear hb hs ht hl hl2
  obtain ⟨sw, sk, sh⟩ := s
  obtain ⟨tw, tk, th⟩ := t
  simp only at HC HB ⊢
  by_cases h1 : sk = tk
  · by_cases h2 : sh = th
    · have HN : Hid (Pl.better ⟨sw, sk, sh⟩ ⟨tw, tk, th⟩ = decide (cmpL sw tw < 0)) := by show _ = _; rw [cmpL_lex]; simp [Pl.better, h1, h2]
      have e1 : (sk != tk) = false := by simp [h1]
      have e2 : (sh != th) = false := by simp [h2]
      generalize cmpL sw tw = r at HN HC
      clear h1 h2
      go_enter Tryz.func35, Tryz.ntmps35
      go_wp2_with (go_at_call 57; refine HC.out.mono ?_; rintro e w1 ⟨rfl, rfl⟩)
      go_ret
      exact ⟨by rw [HN.out]; rfl, HB.out⟩
    · have HN : Hid (Pl.better ⟨sw, sk, sh⟩ ⟨tw, tk, th⟩ = decide (sh < th)) := by show _ = _; simp [Pl.better, h1, h2]
      have e1 : (sk != tk) = false := by simp [h1]
      have e2 : (sh != th) = true := by simp [h2]
      clear h1 h2 HC
      go_enter Tryz.func35, Tryz.ntmps35
      go_wp2_with fail
      go_ret
      exact ⟨by rw [HN.out]; rfl, HB.out⟩
  · have HN : Hid (Pl.better ⟨sw, sk, sh⟩ ⟨tw, tk, th⟩ = decide (sk < tk)) := by show _ = _; simp [Pl.better, h1]
    have e1 : (sk != tk) = true := by simp [h1]
    clear h1 HC
    go_enter Tryz.func35, Tryz.ntmps35
    go_wp2_with fail
    go_ret
    exact ⟨by rw [HN.out]; rfl, HB.out⟩
end Go.Proofs.YtpbjpochjagicaaGreatDoorRR
