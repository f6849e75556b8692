/- DERIVED: THE SHELF's CONTRACTS AT THIS DUMP, IN PLAIN WORDS (tools/lay-plain.mjs out of 'TryShelf.lean', which tools/lay-shelf.mjs wrote): THE SAME DECLARATIONS UNDER THE SAME NAMES: 'import', 'namespace', 'open', 'def', 'theorem' AND NOTHING ELSE: no command of the shelf's: FOR A HAND-IN. Each laying: the table of numbers ('.._ren') and one theorem, a field a fact of the dump's own or the kernel's comparison; each contract: ONE APPLICATION. Walks: a thing more in a sorted list. -/
import Derived.Shelf.Sort.Plain
import Derived.Ground.Names2Prog
import Derived.Shelf.Slices.Clone
import Derived.Shelf.Slices.In.SortNone
import Derived.Test.YtpbjpochjagicaaChecked
import Derived.Test.YtpbjpochjagicaaW11
namespace Go.Proofs
open Go.Shelf
def Try.lays189_ren : Go.Shelf.Ren := ⟨fun | 189 => 93 | 125 => 111 | 257 => 110 | 128 => 128 | 129 => 129 | 294 => 119 | 295 => 120 | 296 => 121 | 297 => 122 | 298 => 123 | 299 => 124 | 216 => 125 | 300 => 126 | 301 => 127 | 328 => 131 | 329 => 132 | 330 => 133 | 331 => 134 | 332 => 135 | 215 => 130 | 343 => 136 | n => n, fun | 28 => 22 | 3 => 3 | 46 => 89 | 0 => 0 | 51 => 165 | 53 => 86 | 4 => 4 | 183 => 158 | 182 => 157 | 131 => 162 | 5 => 5 | 9 => 9 | 218 => 167 | 222 => 170 | 228 => 172 | 229 => 173 | n => n, fun | n => n⟩
theorem Try.lays189 : Go.Proofs.Lays.n189 Try.prog Try.lays189_ren := {
  mixed := by kernel_rfl
  f125 := Try.func111.trans (congrArg some (by kernel_rfl))
  f128 := Try.func128.trans (congrArg some (by kernel_rfl))
  f129 := Try.func129.trans (congrArg some (by kernel_rfl))
  f189 := Try.func93.trans (congrArg some (by kernel_rfl))
  f215 := Try.func130.trans (congrArg some (by kernel_rfl))
  f216 := Try.func125.trans (congrArg some (by kernel_rfl))
  f257 := Try.func110.trans (congrArg some (by kernel_rfl))
  f294 := Try.func119.trans (congrArg some (by kernel_rfl))
  f295 := Try.func120.trans (congrArg some (by kernel_rfl))
  f296 := Try.func121.trans (congrArg some (by kernel_rfl))
  f297 := Try.func122.trans (congrArg some (by kernel_rfl))
  f298 := Try.func123.trans (congrArg some (by kernel_rfl))
  f299 := Try.func124.trans (congrArg some (by kernel_rfl))
  f300 := Try.func126.trans (congrArg some (by kernel_rfl))
  f301 := Try.func127.trans (congrArg some (by kernel_rfl))
  f328 := Try.func131.trans (congrArg some (by kernel_rfl))
  f329 := Try.func132.trans (congrArg some (by kernel_rfl))
  f330 := Try.func133.trans (congrArg some (by kernel_rfl))
  f331 := Try.func134.trans (congrArg some (by kernel_rfl))
  f332 := Try.func135.trans (congrArg some (by kernel_rfl))
  f343 := Try.func136.trans (congrArg some (by kernel_rfl))
  t0 := Try.underlying0
  a0 := Try.isAgg0
  z0 := Try.sizeOf0
  v0 := Try.zeroValue0
  t3 := Try.underlying3
  a3 := Try.isAgg3
  z3 := Try.sizeOf3
  v3 := Try.zeroValue3
  t4 := Try.underlying4
  a4 := Try.isAgg4
  z4 := Try.sizeOf4
  v4 := Try.zeroValue4
  t5 := Try.underlying5
  a5 := Try.isAgg5
  z5 := Try.sizeOf5
  v5 := Try.zeroValue5
  t9 := Try.underlying9
  a9 := Try.isAgg9
  z9 := Try.sizeOf9
  v9 := Try.zeroValue9
  t28 := Try.underlying22
  a28 := Try.isAgg22
  z28 := Try.sizeOf22
  v28 := Try.zeroValue22
  t46 := Try.underlying89
  a46 := Try.isAgg89
  z46 := Try.sizeOf89
  v46 := Try.zeroValue89
  t51 := Try.underlying165
  a51 := Try.isAgg165
  z51 := Try.sizeOf165
  v51 := Try.zeroValue165
  t53 := Try.underlying86
  a53 := Try.isAgg86
  z53 := Try.sizeOf86
  v53 := Try.zeroValue86
  t131 := Try.underlying162
  a131 := Try.isAgg162
  z131 := Try.sizeOf162
  v131 := Try.zeroValue162
  t182 := Try.underlying157
  a182 := Try.isAgg157
  z182 := Try.sizeOf157
  v182 := Try.zeroValue157
  t183 := Try.underlying158
  a183 := Try.isAgg158
  z183 := Try.sizeOf158
  v183 := Try.zeroValue158
  t218 := Try.underlying167
  a218 := Try.isAgg167
  z218 := Try.sizeOf167
  v218 := Try.zeroValue167
  t222 := Try.underlying170
  a222 := Try.isAgg170
  z222 := Try.sizeOf170
  v222 := Try.zeroValue170
  t228 := Try.underlying172
  a228 := Try.isAgg172
  z228 := Try.sizeOf172
  v228 := Try.zeroValue172
  t229 := Try.underlying173
  a229 := Try.isAgg173
  z229 := Try.sizeOf173
  v229 := Try.zeroValue173 }
open Go.Sort Go.RowKit in
theorem Try.slices_Sort_int (blk off cap : Nat) (zs : List Int) (w : World) (hH : Holds (Value.int .i64) w blk off zs.toArray) (hblk : blk < w.heap.size) (hsz : zs.length < 4611686018427387904) :
    Calls Try.prog 93 #[.slice (some ⟨blk, off, none⟩) zs.length cap] w fun e w' =>
      e = .returned (.tuple #[]) ∧ ∃ n os, w' = grow (putRow (Value.int .i64) (Sort.ahead w n) blk off (zs.mergeSort fun x y => decide (x ≤ y)).toArray) os := Any.slices_Sort_int Try.lays189 blk off cap zs w hH hblk hsz
def Try.laysNm215_ren : Go.Shelf.Ren := ⟨fun | 15 => 74 | n => n, fun | 22 => 22 | 3 => 3 | 4 => 4 | n => n, fun | n => n⟩
theorem Try.laysNm215 : Go.Proofs.Lays2.n15 Try.prog Try.laysNm215_ren := {
  mixed := by kernel_rfl
  f15 := Try.func74.trans (congrArg some (by kernel_rfl))
  t3 := Try.underlying3
  a3 := Try.isAgg3
  z3 := Try.sizeOf3
  v3 := Try.zeroValue3
  t4 := Try.underlying4
  a4 := Try.isAgg4
  z4 := Try.sizeOf4
  v4 := Try.zeroValue4
  t22 := Try.underlying22
  a22 := Try.isAgg22
  z22 := Try.sizeOf22
  v22 := Try.zeroValue22
  i3 := by kernel_rfl }
open Go.RowKit Go.Lib in
/-- slices.Clone at []int: "Clone returns a copy of the slice. The elements are copied using assignment, so this is a shallow clone. The result may have additional unused capacity. The result preserves the nilness of s.": OF A SLICE THAT IS NOT nil IT RETURNS A SLICE THAT IS NOT nil, OF THE SAME ELEMENTS, IN MEMORY OF THE CALL's OWN: in the how-to's words (6f): 'w'.ownsRow B e 1 v' n cells': v' begins at the head of a row among the blocks from B on (B: the heap's size at the call), not frozen, whose first cells are the elements · 'Below B w w'': below B all is as it was. The capacity is whatever the run-time gives. 'zs': what the cells behind the slice's address hold; 'zs.take n': its elements. (LAID: no walk: one application.) -/
theorem Try.slices_Clone_int (b off n c : Nat) (zs : List Int) (w : World) (hz : n ≤ zs.length) (hbig : n * 8 ≤ 140737488355328) (hc : ∀ j, j < zs.length → w.cell? ⟨b, off + j, none⟩ = some (.int .i64 (zs.getD j 0))) :
    Calls Try.prog 74 #[.slice (some ⟨b, off, none⟩) n c] w fun e w' => ∃ v', e = .returned v' ∧ w'.ownsRow w.heap.size 3 1 v' n ((zs.take n).map (Value.int .i64)) ∧ v' ≠ .slice none 0 0 ∧ Below w.heap.size w w' := Any.slices_Clone_int Try.laysNm215 b off n c zs w hz hbig hc
open Go.RowKit Go.Lib in
/-- The same at nil: nil comes back; the world is as it was. (LAID: no walk: one application.) -/
theorem Try.slices_Clone_int_nil (n c : Nat) (w : World) :
    Calls Try.prog 74 #[.slice none n c] w fun e w' => e = .returned (.slice none 0 0) ∧ w' = w := Any.slices_Clone_int_nil Try.laysNm215 n c w
open Go.RowKit Go.Lib in
/-- The same at a slice of length 0 that is not nil, WHATEVER ITS ADDRESS (no cell is asked for): a slice that is not nil and owns nothing comes back. (LAID: no walk: one application.) -/
theorem Try.slices_Clone_int_zero (a : Addr) (c : Nat) (w : World) :
    Calls Try.prog 74 #[.slice (some a) 0 c] w fun e w' => ∃ v', e = .returned v' ∧ w'.ownsRow w.heap.size 3 1 v' 0 [] ∧ v' ≠ .slice none 0 0 ∧ Below w.heap.size w w' := Any.slices_Clone_int_zero Try.laysNm215 a c w
open Go.RowKit Go.Sort in
/-- .. and plain. (LAID: no walk: one application.) -/
theorem Try.slices_Sort_int_none (p : Option Addr) (cap : Nat) (w : World) :
    Calls Try.prog 93 #[.slice p 0 cap] w fun e w' => e = .returned (.tuple #[]) ∧ w' = w := Any.slices_Sort_int_none Try.lays189 p cap w
end Go.Proofs

namespace Go.Proofs.Ytpbjpochjagicaa
open Go.RowKit

/-- Ascending. -/
def Asc (l : List Int) : Prop := l.Pairwise (· ≤ ·)

theorem insert_perm (n : Int) (l : List Int) : (Pl.insert n l).Perm (l ++ [n]) := by
  induction l with
  | nil => exact List.Perm.refl _
  | cons x l ih =>
    rw [Pl.insert]
    by_cases h : n < x
    · rw [if_pos h]
      exact (List.perm_append_comm (l₁ := [n]) (l₂ := x :: l))
    · rw [if_neg h]; exact ih.cons x
theorem insert_length (n : Int) (l : List Int) : (Pl.insert n l).length = l.length + 1 := by rw [(insert_perm n l).length_eq]; simp
theorem mem_insert {n y : Int} {l : List Int} : y ∈ Pl.insert n l ↔ y = n ∨ y ∈ l := by rw [(insert_perm n l).mem_iff]; simp [or_comm]
theorem asc_insert {l : List Int} (h : Asc l) (n : Int) : Asc (Pl.insert n l) := by
  induction l with
  | nil => exact List.pairwise_singleton _ _
  | cons x l ih =>
    have hx := List.pairwise_cons.1 h
    rw [Pl.insert]
    by_cases hn : n < x
    · rw [if_pos hn]
      refine List.pairwise_cons.2 ⟨fun y hy => ?_, h⟩
      rcases List.mem_cons.1 hy with rfl | hy
      · omega
      · have := hx.1 y hy; omega
    · rw [if_neg hn]
      refine List.pairwise_cons.2 ⟨fun y hy => ?_, ih hx.2⟩
      rcases mem_insert.1 hy with rfl | hy
      · omega
      · exact hx.1 y hy
theorem sort_insert {l : List Int} (h : Asc l) (n : Int) : (l ++ [n]).mergeSort (fun x y => decide (x ≤ y)) = Pl.insert n l := by
  refine List.Perm.eq_of_pairwise (le := fun a b : Int => a ≤ b) (fun a b _ _ h1 h2 => by omega) ?_ (asc_insert h n) ((List.mergeSort_perm _ _).trans (insert_perm n l).symm)
  have := List.pairwise_mergeSort (le := fun x y : Int => decide (x ≤ y)) (by simp; omega) (by simp; omega) (l ++ [n])
  simpa using this

theorem holds_of {w : World} {g : Nat} {e : TypeId} {xs : List Int} {cap : Nat} {base : Nat} (h : w.ownsRow base e 1 (.slice (some ⟨g, 0, none⟩) xs.length cap) xs.length (xs.map (Value.int .i64))) :
    Sort.Holds (Value.int .i64) w g 0 xs.toArray ∧ g < w.heap.size ∧ base ≤ g := by
  rcases h.2 with ⟨h1, _⟩ | ⟨g', cap', cur, h1, hb, hh, hc1, _, hs, ht⟩
  · cases h1
  · injection h1 with h1 _ _
    injection h1 with h1
    injection h1 with h1
    subst h1
    refine ⟨fun j hj => ?_, lt_of_block hh, hb⟩
    have hj' : j < xs.length := by simpa using hj
    refine ⟨?_, by rw [show (0 + j) = j by omega]; simp [World.frozen?, hh]⟩
    rw [cell_of_row w g (0 + j) _ e (0, 0) hh]
    have h2 : (cur.toList.take (xs.length * 1))[j]? = (xs.map (Value.int .i64))[j]? := by rw [ht]
    rw [List.getElem?_take, if_pos (by omega)] at h2
    simp [hj'] at h2
    simp [hj', h2]

theorem putRow_far {w : World} {g off k : Nat} {d : Array Int} (hk : k ≠ g) : (Sort.putRow (Value.int .i64) w g off d).heap[k]? = w.heap[k]? := by
  simp only [Sort.putRow, Sort.mapBlock]
  rw [Array.getElem?_modify, if_neg (Ne.symm hk)]
theorem size_putRow (w : World) (g off : Nat) (d : Array Int) : (Sort.putRow (Value.int .i64) w g off d).heap.size = w.heap.size := by simp [Sort.putRow, Sort.mapBlock]

theorem after_sort {w : World} {g n : Nat} {os : Array Obj} {xs ys : List Int} (hH : Sort.Holds (Value.int .i64) w g 0 xs.toArray) (hg : g < w.heap.size) (hl : ys.length = xs.length) {B : Nat} (hB : B ≤ g) :
    Ints (Sort.grow (Sort.putRow (Value.int .i64) (Sort.ahead w n) g 0 ys.toArray) os) (w.heap.size + os.size) (some ⟨g, 0, none⟩) ys ∧
    Below B w (Sort.grow (Sort.putRow (Value.int .i64) (Sort.ahead w n) g 0 ys.toArray) os) ∧ (Sort.grow (Sort.putRow (Value.int .i64) (Sort.ahead w n) g 0 ys.toArray) os).heap.size = w.heap.size + os.size := by
  have hs : (Sort.grow (Sort.putRow (Value.int .i64) (Sort.ahead w n) g 0 ys.toArray) os).heap.size = w.heap.size + os.size := by rw [Sort.size_grow, size_putRow]; rfl
  refine ⟨fun k x hx => ⟨g, 0, rfl, by omega, ?_⟩, ⟨rfl, rfl, rfl, by omega, fun k hk => ?_⟩, hs⟩
  · have hk : k < ys.length := (List.getElem?_eq_some_iff.1 hx).1
    rw [Sort.cell?_grow _ _ _ (by rw [size_putRow]; exact hg)]
    have h0 := (hH k (by simp; omega)).1
    simp only [World.cell?] at h0 ⊢
    have hblk : (Sort.ahead w n).heap = w.heap := rfl
    simp only [Sort.putRow, Sort.mapBlock, hblk, Array.getElem?_modify, if_pos]
    cases hh : w.heap[g]? with
    | none => rw [hh] at h0; simp at h0
    | some o =>
      rw [hh] at h0
      cases o with
      | cells cur t f =>
        simp only [Option.map_some, Sort.onCells, Sort.putCells] at h0 ⊢
        simp only [Nat.zero_add] at h0 ⊢
        have hcur : k < cur.size := by
          rcases Nat.lt_or_ge k cur.size with h | h
          · exact h
          · simp [h] at h0
        simp [hcur, hk] at hx h0 ⊢
        rw [← hx]
      | _ => simp at h0
  · rw [Sort.heap_grow_old _ _ (by rw [size_putRow]; exact Nat.lt_trans (by omega) hg), putRow_far (by omega)]
    rfl

/-- A fresh list. -/
def FreshInts (w : World) (l : List Int) (e : Ending) (w' : World) : Prop :=
  ∃ g cap, e = .returned (.slice (some ⟨g, 0, none⟩) l.length cap) ∧ w.heap.size ≤ g ∧ Ints w' w'.heap.size (some ⟨g, 0, none⟩) l ∧ Below w.heap.size w w'

set_option maxHeartbeats 1000000 in
theorem with_any (A : Option Addr) (c : Nat) (l : List Int) (n : Int) (w : World) (hl : Ints w w.heap.size A l) (hlen : l.length ≤ 1000) (ha : Asc l) :
    Calls Try.prog 106 #[.slice A l.length c, .int .i64 n] w (FreshInts w (Pl.insert n l)) := by
  have hS := sort_insert ha n
  have HS := Lib.hid hS; clear hS ha
  have hClone : Calls Try.prog 74 #[.slice A l.length c] w fun e w' => ∃ A' c', e = .returned (.slice A' l.length c') ∧ OwnInts w' w.heap.size A' c' l ∧ Below w.heap.size w w' := by
    rcases hl.form with rfl | ⟨b, off, rfl, hb, hc⟩
    · cases A with
      | none =>
        refine (Try.slices_Clone_int_nil 0 c w).mono ?_
        rintro e w' ⟨rfl, rfl⟩
        exact ⟨none, 0, rfl, OwnInts.nil _ _, Below.refl _ _⟩
      | some a =>
        refine (Try.slices_Clone_int_zero a c w).mono ?_
        rintro e w' ⟨v', rfl, hown, _, hb⟩
        obtain ⟨A', c', rfl⟩ := own_slice hown
        exact ⟨A', c', rfl, hown, hb⟩
    · refine (Try.slices_Clone_int b off l.length c l w (Nat.le_refl _) (by omega) (fun j hj => ?_)).mono ?_
      · rw [hc j hj, List.getD_eq_getElem?_getD, List.getElem?_eq_getElem hj]; rfl
      rintro e w' ⟨v', rfl, hown, _, hb⟩
      obtain ⟨A', c', rfl⟩ := own_slice hown
      rw [List.take_length] at hown
      exact ⟨A', c', rfl, hown, hb⟩
  have HC := Lib.hid hClone; clear hClone hl
  go_enter Try.func106, Try.ntmps106
  go_wp2_with fail
  refine HC.out.mono ?_
  rintro e w1 ⟨A', c', rfl, hown, hb1⟩
  have Hown := Lib.hid hown; have Hb1 := Lib.hid hb1
  have hs1 := hb1.size
  clear hown hb1
  go_wp2_with (at_builtin; refine wpl_app_ints rfl (.tmp 6) (.tmp 8) 22 rfl w.heap.size Try.underlying22 int_info A' c' l rfl (own_alloc Hown.out _) (w1.heap.size + 1) (some ⟨w1.heap.size, 0, none⟩) 1 [n] rfl (ints_one _ _ _ (by simp) (by omega)) (by simp; omega) (by simp; omega) ?_; intro A2 c2 w2 hown2 hg2 hat2)
  obtain ⟨g, hA2⟩ : ∃ g, A2 = some ⟨g, 0, none⟩ := by
    rcases hown2.out.2 with ⟨_, h0⟩ | ⟨g, cap, cur, h1, _⟩
    · simp at h0
    · injection h1 with h1; exact ⟨g, h1⟩
  subst hA2
  obtain ⟨hH, hg, hgb⟩ := holds_of hown2
  have hSort := Try.slices_Sort_int g 0 c2 (l ++ [n]) w2 hH hg (by simp; omega)
  have HW2 := Lib.hid (((Hb1.out.alloc hs1 _).grown hg2 (by simp; omega) (own_from Hown.out)) : Below w.heap.size w w2)
  rw [HS.out] at hSort
  simp only [List.length_append, List.length_cons, List.length_nil, Nat.zero_add] at hSort
  have HH := Lib.hid hH; clear hH hown2 hg2 hat2 HC
  refine hSort.mono ?_
  rintro e w3 ⟨rfl, k, os, rfl⟩
  obtain ⟨h1, h2, h3⟩ := after_sort (n := k) (os := os) HH.out hg (ys := Pl.insert n l) (by rw [insert_length]; simp) hgb
  have H1 := Lib.hid h1; have H2 := Lib.hid (HW2.out.trans h2); clear h1 h2 hSort
  rw [← h3] at H1
  have HL : Hid ((Pl.insert n l).length = l.length + 1) := insert_length n l
  generalize Sort.grow (Sort.putRow (Value.int .i64) (Sort.ahead w2 k) g 0 (Pl.insert n l).toArray) os = w3 at H1 H2 ⊢
  clear h3
  go_wp2_with fail
  go_ret
  exact ⟨g, c2, by rw [HL.out]; rfl, hgb, H1.out, H2.out⟩
end Go.Proofs.Ytpbjpochjagicaa
