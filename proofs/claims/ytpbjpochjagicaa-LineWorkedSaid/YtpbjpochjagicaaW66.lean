/- Walks: a number is put into a list in order: put of the reference. -/
import Derived.Test.YtpbjpochjagicaaW39
namespace Go.Proofs.Ytpbjpochjagicaa
open Go.RowKit

def loTo (xs : List Int) (n : Int) (k : Nat) : List Int := (xs.take k).filter (fun x => decide (x < n))
def hiTo (xs : List Int) (n : Int) (k : Nat) : List Int := (xs.take k).filter (fun x => decide (n < x))
def putL (xs : List Int) (n : Int) : List Int := xs.filter (fun x => decide (x < n)) ++ [n] ++ xs.filter (fun x => decide (n < x))
theorem take_more {xs : List Int} {k : Nat} {x : Int} (h : xs[k]? = some x) : xs.take (k + 1) = xs.take k ++ [x] := by
  rw [List.take_add_one, h]; rfl
theorem loTo_in {xs : List Int} {n x : Int} {k : Nat} (h : xs[k]? = some x) (hx : x < n) : loTo xs n (k + 1) = loTo xs n k ++ [x] := by
  unfold loTo; rw [take_more h, List.filter_append]; simp [hx]
theorem loTo_out {xs : List Int} {n x : Int} {k : Nat} (h : xs[k]? = some x) (hx : ¬ x < n) : loTo xs n (k + 1) = loTo xs n k := by
  unfold loTo; rw [take_more h, List.filter_append]; simp [hx]
theorem hiTo_in {xs : List Int} {n x : Int} {k : Nat} (h : xs[k]? = some x) (hx : n < x) : hiTo xs n (k + 1) = hiTo xs n k ++ [x] := by
  unfold hiTo; rw [take_more h, List.filter_append]; simp [hx]
theorem hiTo_out {xs : List Int} {n x : Int} {k : Nat} (h : xs[k]? = some x) (hx : ¬ n < x) : hiTo xs n (k + 1) = hiTo xs n k := by
  unfold hiTo; rw [take_more h, List.filter_append]; simp [hx]
theorem loTo_len (xs : List Int) (n : Int) (k : Nat) : (loTo xs n k).length ≤ xs.length :=
  Nat.le_trans (List.length_filter_le _ _) (by simp; omega)
theorem hiTo_len (xs : List Int) (n : Int) (k : Nat) : (hiTo xs n k).length ≤ xs.length :=
  Nat.le_trans (List.length_filter_le _ _) (by simp; omega)
def PutPost (ys : List Int) (w : World) (e : Ending) (w' : World) : Prop := ∃ A c, e = .returned (.slice A ys.length c) ∧ OwnInts w' w.heap.size A c ys ∧ Below w.heap.size w w'
set_option maxRecDepth 20000 in
set_option maxHeartbeats 2000000 in
theorem put_any (A : Option Addr) (cp : Nat) (xs : List Int) (n : Int) (w : World) (hx : Ints w w.heap.size A xs) (hl : xs.length ≤ 400) :
    Calls Try.prog 89 #[.slice A xs.length cp, .int .i64 n] w (PutPost (putL xs n) w) := by
  have HX := Lib.hid hx
  clear hx
  generalize hys : putL xs n = ys
  have HYS := Lib.hid hys
  clear hys
  go_enter Try.func89, Try.ntmps89
  go_wp2_with fail
  go_loopw [5, 6] (fun v iv wr => ∃ (k : Nat) (A2 : Option Addr) (c2 : Nat), k ≤ xs.length ∧ v = .slice A2 (loTo xs n k).length c2 ∧ iv = .int .i64 k ∧ Hid (OwnInts wr w.heap.size A2 c2 (loTo xs n k)) ∧ Hid (Below w.heap.size w wr)) (fun _ i _ => xs.length - (intOf i).toNat)
  case atStart => exact ⟨0, none, 0, by omega, rfl, rfl, OwnInts.nil _ _, Below.refl _ _⟩
  case round =>
    obtain ⟨k, A2, c2, hk, rfl, rfl, hO, hB⟩ := hrel
    have hsr := hB.out.size
    by_cases hkl : k < xs.length
    · have hki : (k : Int) < (xs.length : Int) := by omega
      obtain ⟨b, off, rfl, hb, hc⟩ := HX.out k xs[k] (List.getElem?_eq_getElem hkl)
      have hcr := (hB.out.cell (p := ⟨b, off + k, none⟩) hb).trans hc
      have hbr : b < wr.heap.size := by omega
      have hke : xs[k]? = some xs[k] := List.getElem?_eq_getElem hkl
      have hll := loTo_len xs n k
      by_cases hlt : xs[k] < n
      · have HNS := Lib.hid (loTo_in hke hlt)
        generalize xs[k] = x at *
        go_wp2_with (at_builtin; refine wpl_app_ints rfl (.tmp 20) (.tmp 25) 22 rfl w.heap.size Try.underlying22 int_info A2 c2 (loTo xs n k) rfl (own_alloc hO.out _) (wr.heap.size + 1) (some ⟨wr.heap.size, 0, none⟩) 1 [x] rfl (ints_one _ _ _ (by simp) (by omega)) (by simp; omega) (by simp; omega) ?_; intro A3 c3 w4 hown4 hg4 hat4; have HO4 := Lib.hid hown4; have HB4 := Lib.hid ((hB.out.alloc hsr (.cells #[.int .i64 x] 3)).grown hg4 (by simp; omega) (own_from hO.out)); clear hown4 hg4 hat4)
        go_roundw
        case rel => exact ⟨k + 1, A3, c3, by omega, by rw [HNS.out]; simp, by go_num, (by show OwnInts _ _ _ _ _; rw [HNS.out]; exact HO4.out), HB4⟩
        case measure => simp [intOf]; omega
      · have HNS := Lib.hid (loTo_out hke hlt)
        generalize xs[k] = x at *
        go_wp2_with fail
        go_roundw
        case rel => exact ⟨k + 1, A2, c2, by omega, by rw [HNS.out], by go_num, (by show OwnInts _ _ _ _ _; rw [HNS.out]; exact hO.out), hB⟩
        case measure => simp [intOf]; omega
    · have hlo : loTo xs n k = xs.filter (fun x => decide (x < n)) := by unfold loTo; rw [List.take_of_length_le (by omega)]
      have hni : ¬ (k : Int) < (xs.length : Int) := by omega
      have hll := loTo_len xs n k
      generalize loTo xs n k = lo at *
      obtain ⟨w1, rfl⟩ : ∃ w1, w1 = wr := ⟨_, rfl⟩
      have HLO := Lib.hid hlo
      clear hlo
      go_wp2_with (at_builtin; refine wpl_app_ints rfl (.tmp 27) (.tmp 29) 22 rfl w.heap.size Try.underlying22 int_info A2 c2 lo rfl (own_alloc hO.out _) (w1.heap.size + 1) (some ⟨w1.heap.size, 0, none⟩) 1 [n] rfl (ints_one _ _ _ (by simp) (by omega)) (by simp; omega) (by simp; omega) ?_; intro A3 c3 w4 hown4 hg4 hat4; have HO4 := Lib.hid hown4; have HB4 := Lib.hid ((hB.out.alloc hsr (.cells #[.int .i64 n] 3)).grown hg4 (by simp; omega) (own_from hO.out)); clear hown4 hg4 hat4)
      have H0 : hiTo xs n 0 = [] := by simp [hiTo]
      have HO5 : Hid (OwnInts w4 w.heap.size A3 c3 (lo ++ [n] ++ hiTo xs n 0)) := by show OwnInts _ _ _ _ _; rw [H0, List.append_nil]; exact HO4.out
      clear H0 hO hB hsr hni
      go_loopw [5, 7] (fun v iv wr => ∃ (k : Nat) (A2 : Option Addr) (c2 : Nat), k ≤ xs.length ∧ v = .slice A2 (lo ++ [n] ++ hiTo xs n k).length c2 ∧ iv = .int .i64 k ∧ Hid (OwnInts wr w.heap.size A2 c2 (lo ++ [n] ++ hiTo xs n k)) ∧ Hid (Below w.heap.size w wr)) (fun _ i _ => xs.length - (intOf i).toNat)
      case atStart => exact ⟨0, A3, c3, by omega, by simp [hiTo], rfl, HO5, HB4⟩
      case round =>
        obtain ⟨k3, A4, c4, hk3, rfl, rfl, hO, hB⟩ := hrel
        clear HO5 HB4 HO4
        have hsr := hB.out.size
        have hl2 := hiTo_len xs n k3
        by_cases hkl3 : k3 < xs.length
        · have hki : (k3 : Int) < (xs.length : Int) := by omega
          obtain ⟨b, off, rfl, hb, hc⟩ := HX.out k3 xs[k3] (List.getElem?_eq_getElem hkl3)
          have hcr := (hB.out.cell (p := ⟨b, off + k3, none⟩) hb).trans hc
          have hbr : b < wr.heap.size := by omega
          have hke : xs[k3]? = some xs[k3] := List.getElem?_eq_getElem hkl3
          by_cases hlt : n < xs[k3]
          · have HNS := Lib.hid (hiTo_in hke hlt)
            have hsum : (lo ++ [n] ++ hiTo xs n k3).length = lo.length + 1 + (hiTo xs n k3).length := by simp; omega
            generalize xs[k3] = x at *
            obtain ⟨zs, hzs⟩ : ∃ zs, zs = lo ++ [n] ++ hiTo xs n k3 := ⟨_, rfl⟩
            have HNZ : Hid (lo ++ [n] ++ hiTo xs n (k3 + 1) = zs ++ [x]) := by show _ = _; rw [HNS.out, hzs]; simp
            rw [← hzs] at hO hsum ⊢
            have HSUM := Lib.hid hsum
            clear hzs hsum
            go_wp2_with (at_builtin; refine wpl_app_ints rfl (.tmp 43) (.tmp 48) 22 rfl w.heap.size Try.underlying22 int_info A4 c4 zs rfl (own_alloc hO.out _) (wr.heap.size + 1) (some ⟨wr.heap.size, 0, none⟩) 1 [x] rfl (ints_one _ _ _ (by simp) (by omega)) (by have := HSUM.out; simp; omega) (by simp; omega) ?_; intro A5 c5 w5 hown5 hg5 hat5; have HO5 := Lib.hid hown5; have HB5 := Lib.hid ((hB.out.alloc hsr (.cells #[.int .i64 x] 3)).grown hg5 (by simp; omega) (own_from hO.out)); clear hown5 hg5 hat5)
            go_roundw
            case rel => exact ⟨k3 + 1, A5, c5, by omega, by rw [HNZ.out]; simp, by go_num, (by show OwnInts _ _ _ _ _; rw [HNZ.out]; exact HO5.out), HB5⟩
            case measure => simp [intOf]; omega
          · have HNS := Lib.hid (hiTo_out hke hlt)
            generalize xs[k3] = x at *
            go_wp2_with fail
            go_roundw
            case rel => exact ⟨k3 + 1, A4, c4, by omega, by rw [HNS.out], by go_num, (by show OwnInts _ _ _ _ _; rw [HNS.out]; exact hO.out), hB⟩
            case measure => simp [intOf]; omega
        · have hni : ¬ (k3 : Int) < (xs.length : Int) := by omega
          have hfin : lo ++ [n] ++ hiTo xs n k3 = ys := by
            rw [← HYS.out, HLO.out]
            unfold putL hiTo
            rw [List.take_of_length_le (by omega)]
          rw [hfin] at hO ⊢
          go_wp2_with fail
          go_ret
          exact ⟨A4, c4, rfl, hO.out, hB.out⟩
end Go.Proofs.Ytpbjpochjagicaa
