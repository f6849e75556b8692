/- Walks: a thing more in a sorted list. -/
import Derived.Test.YtpbjpochjagicaaW12
import Derived.Test.YtpbjpochjagicaaSh
namespace Go.Proofs.Ytpbjpochjagicaa
open Go.RowKit

/-- Ascending. -/
def Asc (l : List Int) : Prop := l.Pairwise (· ≤ ·)

theorem insert_perm (n : Int) (l : List Int) : (Pl.insert n l).Perm (l ++ [n]) := by
  induction l with
  | nil => exact List.Perm.refl _
  | cons x l ih =>
    rw [Pl.insert]
    by_cases h : n < x
    · rw [if_pos h]
      exact (List.perm_append_comm (l₁ := [n]) (l₂ := x :: l))
    · rw [if_neg h]; exact ih.cons x
theorem insert_length (n : Int) (l : List Int) : (Pl.insert n l).length = l.length + 1 := by rw [(insert_perm n l).length_eq]; simp
theorem mem_insert {n y : Int} {l : List Int} : y ∈ Pl.insert n l ↔ y = n ∨ y ∈ l := by rw [(insert_perm n l).mem_iff]; simp [or_comm]
theorem asc_insert {l : List Int} (h : Asc l) (n : Int) : Asc (Pl.insert n l) := by
  induction l with
  | nil => exact List.pairwise_singleton _ _
  | cons x l ih =>
    have hx := List.pairwise_cons.1 h
    rw [Pl.insert]
    by_cases hn : n < x
    · rw [if_pos hn]
      refine List.pairwise_cons.2 ⟨fun y hy => ?_, h⟩
      rcases List.mem_cons.1 hy with rfl | hy
      · omega
      · have := hx.1 y hy; omega
    · rw [if_neg hn]
      refine List.pairwise_cons.2 ⟨fun y hy => ?_, ih hx.2⟩
      rcases mem_insert.1 hy with rfl | hy
      · omega
      · exact hx.1 y hy
theorem sort_insert {l : List Int} (h : Asc l) (n : Int) : (l ++ [n]).mergeSort (fun x y => decide (x ≤ y)) = Pl.insert n l := by
  refine List.Perm.eq_of_pairwise (le := fun a b : Int => a ≤ b) (fun a b _ _ h1 h2 => by omega) ?_ (asc_insert h n) ((List.mergeSort_perm _ _).trans (insert_perm n l).symm)
  have := List.pairwise_mergeSort (le := fun x y : Int => decide (x ≤ y)) (by simp; omega) (by simp; omega) (l ++ [n])
  simpa using this

theorem holds_of {w : World} {g : Nat} {e : TypeId} {xs : List Int} {cap : Nat} {base : Nat} (h : w.ownsRow base e 1 (.slice (some ⟨g, 0, none⟩) xs.length cap) xs.length (xs.map (Value.int .i64))) :
    Sort.Holds (Value.int .i64) w g 0 xs.toArray ∧ g < w.heap.size ∧ base ≤ g := by
  rcases h.2 with ⟨h1, _⟩ | ⟨g', cap', cur, h1, hb, hh, hc1, _, hs, ht⟩
  · cases h1
  · injection h1 with h1 _ _
    injection h1 with h1
    injection h1 with h1
    subst h1
    refine ⟨fun j hj => ?_, lt_of_block hh, hb⟩
    have hj' : j < xs.length := by simpa using hj
    refine ⟨?_, by rw [show (0 + j) = j by omega]; simp [World.frozen?, hh]⟩
    rw [cell_of_row w g (0 + j) _ e (0, 0) hh]
    have h2 : (cur.toList.take (xs.length * 1))[j]? = (xs.map (Value.int .i64))[j]? := by rw [ht]
    rw [List.getElem?_take, if_pos (by omega)] at h2
    simp [hj'] at h2
    simp [hj', h2]

theorem putRow_far {w : World} {g off k : Nat} {d : Array Int} (hk : k ≠ g) : (Sort.putRow (Value.int .i64) w g off d).heap[k]? = w.heap[k]? := by
  simp only [Sort.putRow, Sort.mapBlock]
  rw [Array.getElem?_modify, if_neg (Ne.symm hk)]
theorem size_putRow (w : World) (g off : Nat) (d : Array Int) : (Sort.putRow (Value.int .i64) w g off d).heap.size = w.heap.size := by simp [Sort.putRow, Sort.mapBlock]

theorem after_sort {w : World} {g n : Nat} {os : Array Obj} {xs ys : List Int} (hH : Sort.Holds (Value.int .i64) w g 0 xs.toArray) (hg : g < w.heap.size) (hl : ys.length = xs.length) {B : Nat} (hB : B ≤ g) :
    Ints (Sort.grow (Sort.putRow (Value.int .i64) (Sort.ahead w n) g 0 ys.toArray) os) (w.heap.size + os.size) (some ⟨g, 0, none⟩) ys ∧
    Below B w (Sort.grow (Sort.putRow (Value.int .i64) (Sort.ahead w n) g 0 ys.toArray) os) ∧ (Sort.grow (Sort.putRow (Value.int .i64) (Sort.ahead w n) g 0 ys.toArray) os).heap.size = w.heap.size + os.size := by
  have hs : (Sort.grow (Sort.putRow (Value.int .i64) (Sort.ahead w n) g 0 ys.toArray) os).heap.size = w.heap.size + os.size := by rw [Sort.size_grow, size_putRow]; rfl
  refine ⟨fun k x hx => ⟨g, 0, rfl, by omega, ?_⟩, ⟨rfl, rfl, rfl, by omega, fun k hk => ?_⟩, hs⟩
  · have hk : k < ys.length := (List.getElem?_eq_some_iff.1 hx).1
    rw [Sort.cell?_grow _ _ _ (by rw [size_putRow]; exact hg)]
    have h0 := (hH k (by simp; omega)).1
    simp only [World.cell?] at h0 ⊢
    have hblk : (Sort.ahead w n).heap = w.heap := rfl
    simp only [Sort.putRow, Sort.mapBlock, hblk, Array.getElem?_modify, if_pos]
    cases hh : w.heap[g]? with
    | none => rw [hh] at h0; simp at h0
    | some o =>
      rw [hh] at h0
      cases o with
      | cells cur t f =>
        simp only [Option.map_some, Sort.onCells, Sort.putCells] at h0 ⊢
        simp only [Nat.zero_add] at h0 ⊢
        have hcur : k < cur.size := by
          rcases Nat.lt_or_ge k cur.size with h | h
          · exact h
          · simp [h] at h0
        simp [hcur, hk] at hx h0 ⊢
        rw [← hx]
      | _ => simp at h0
  · rw [Sort.heap_grow_old _ _ (by rw [size_putRow]; exact Nat.lt_trans (by omega) hg), putRow_far (by omega)]
    rfl

/-- A fresh list. -/
def FreshInts (w : World) (l : List Int) (e : Ending) (w' : World) : Prop :=
  ∃ g cap, e = .returned (.slice (some ⟨g, 0, none⟩) l.length cap) ∧ w.heap.size ≤ g ∧ Ints w' w'.heap.size (some ⟨g, 0, none⟩) l ∧ Below w.heap.size w w'

set_option maxHeartbeats 1000000 in
theorem with_any (A : Option Addr) (c : Nat) (l : List Int) (n : Int) (w : World) (hl : Ints w w.heap.size A l) (hlen : l.length ≤ 1000) (ha : Asc l) :
    Calls Try.prog 106 #[.slice A l.length c, .int .i64 n] w (FreshInts w (Pl.insert n l)) := by
  have hS := sort_insert ha n
  have HS := Lib.hid hS; clear hS ha
  have hClone : Calls Try.prog 74 #[.slice A l.length c] w fun e w' => ∃ A' c', e = .returned (.slice A' l.length c') ∧ OwnInts w' w.heap.size A' c' l ∧ Below w.heap.size w w' := by
    rcases hl.form with rfl | ⟨b, off, rfl, hb, hc⟩
    · cases A with
      | none =>
        refine (Try.slices_Clone_int_nil 0 c w).mono ?_
        rintro e w' ⟨rfl, rfl⟩
        exact ⟨none, 0, rfl, OwnInts.nil _ _, Below.refl _ _⟩
      | some a =>
        refine (Try.slices_Clone_int_zero a c w).mono ?_
        rintro e w' ⟨v', rfl, hown, _, hb⟩
        obtain ⟨A', c', rfl⟩ := own_slice hown
        exact ⟨A', c', rfl, hown, hb⟩
    · refine (Try.slices_Clone_int b off l.length c l w (Nat.le_refl _) (by omega) (fun j hj => ?_)).mono ?_
      · rw [hc j hj, List.getD_eq_getElem?_getD, List.getElem?_eq_getElem hj]; rfl
      rintro e w' ⟨v', rfl, hown, _, hb⟩
      obtain ⟨A', c', rfl⟩ := own_slice hown
      rw [List.take_length] at hown
      exact ⟨A', c', rfl, hown, hb⟩
  have HC := Lib.hid hClone; clear hClone hl
  go_enter Try.func106, Try.ntmps106
  go_wp2_with fail
  refine HC.out.mono ?_
  rintro e w1 ⟨A', c', rfl, hown, hb1⟩
  have Hown := Lib.hid hown; have Hb1 := Lib.hid hb1
  have hs1 := hb1.size
  clear hown hb1
  go_wp2_with (at_builtin; refine wpl_app_ints rfl (.tmp 6) (.tmp 8) 22 rfl w.heap.size Try.underlying22 int_info A' c' l rfl (own_alloc Hown.out _) (w1.heap.size + 1) (some ⟨w1.heap.size, 0, none⟩) 1 [n] rfl (ints_one _ _ _ (by simp) (by omega)) (by simp; omega) (by simp; omega) ?_; intro A2 c2 w2 hown2 hg2 hat2)
  obtain ⟨g, hA2⟩ : ∃ g, A2 = some ⟨g, 0, none⟩ := by
    rcases hown2.out.2 with ⟨_, h0⟩ | ⟨g, cap, cur, h1, _⟩
    · simp at h0
    · injection h1 with h1; exact ⟨g, h1⟩
  subst hA2
  obtain ⟨hH, hg, hgb⟩ := holds_of hown2
  have hSort := Try.slices_Sort_int g 0 c2 (l ++ [n]) w2 hH hg (by simp; omega)
  have HW2 := Lib.hid (((Hb1.out.alloc hs1 _).grown hg2 (by simp; omega) (own_from Hown.out)) : Below w.heap.size w w2)
  rw [HS.out] at hSort
  simp only [List.length_append, List.length_cons, List.length_nil, Nat.zero_add] at hSort
  have HH := Lib.hid hH; clear hH hown2 hg2 hat2 HC
  refine hSort.mono ?_
  rintro e w3 ⟨rfl, k, os, rfl⟩
  obtain ⟨h1, h2, h3⟩ := after_sort (n := k) (os := os) HH.out hg (ys := Pl.insert n l) (by rw [insert_length]; simp) hgb
  have H1 := Lib.hid h1; have H2 := Lib.hid (HW2.out.trans h2); clear h1 h2 hSort
  rw [← h3] at H1
  have HL : Hid ((Pl.insert n l).length = l.length + 1) := insert_length n l
  generalize Sort.grow (Sort.putRow (Value.int .i64) (Sort.ahead w2 k) g 0 (Pl.insert n l).toArray) os = w3 at H1 H2 ⊢
  clear h3
  go_wp2_with fail
  go_ret
  exact ⟨g, c2, by rw [HL.out]; rfl, hgb, H1.out, H2.out⟩
end Go.Proofs.Ytpbjpochjagicaa
