/- DERIVED: THE SHELF's CONTRACTS AT THIS DUMP, IN PLAIN WORDS (tools/lay-plain.mjs out of 'TryShelf.lean', which tools/lay-shelf.mjs wrote): THE SAME DECLARATIONS UNDER THE SAME NAMES: 'import', 'namespace', 'open', 'def', 'theorem' AND NOTHING ELSE: no command of the shelf's: FOR A HAND-IN. Each laying: the table of numbers ('.._ren') and one theorem, a field a fact of the dump's own or the kernel's comparison; each contract: ONE APPLICATION. Walks: a thing more in a sorted list. -/
import Derived.Shelf.Sort.Plain
import Derived.Ground.Names2Prog
import Derived.Shelf.Slices.Clone
import Derived.Shelf.Slices.In.SortNone
import Derived.Test.YtpbjpochjagicaaGreatDoorRRChecked
import Derived.Test.YtpbjpochjagicaaGreatDoorRRW11
namespace Go.Proofs
open Go.Shelf
def Tryz.lays189_ren : Go.Shelf.Ren := ⟨fun | 189 => 29 | 125 => 56 | 257 => 55 | 128 => 79 | 129 => 80 | 294 => 70 | 295 => 71 | 296 => 72 | 297 => 73 | 298 => 74 | 299 => 75 | 216 => 76 | 300 => 77 | 301 => 78 | 328 => 85 | 329 => 86 | 330 => 87 | 331 => 88 | 332 => 89 | 215 => 90 | 343 => 93 | n => n, fun | 28 => 23 | 3 => 3 | 46 => 116 | 0 => 0 | 51 => 136 | 53 => 138 | 4 => 4 | 183 => 128 | 182 => 127 | 131 => 133 | 5 => 5 | 9 => 9 | 218 => 143 | 222 => 147 | 228 => 150 | 229 => 151 | n => n, fun | n => n⟩
theorem Tryz.lays189 : Go.Proofs.Lays.n189 Tryz.prog Tryz.lays189_ren := {
  mixed := by kernel_rfl
  f125 := Tryz.func56.trans (congrArg some (by kernel_rfl))
  f128 := Tryz.func79.trans (congrArg some (by kernel_rfl))
  f129 := Tryz.func80.trans (congrArg some (by kernel_rfl))
  f189 := Tryz.func29.trans (congrArg some (by kernel_rfl))
  f215 := Tryz.func90.trans (congrArg some (by kernel_rfl))
  f216 := Tryz.func76.trans (congrArg some (by kernel_rfl))
  f257 := Tryz.func55.trans (congrArg some (by kernel_rfl))
  f294 := Tryz.func70.trans (congrArg some (by kernel_rfl))
  f295 := Tryz.func71.trans (congrArg some (by kernel_rfl))
  f296 := Tryz.func72.trans (congrArg some (by kernel_rfl))
  f297 := Tryz.func73.trans (congrArg some (by kernel_rfl))
  f298 := Tryz.func74.trans (congrArg some (by kernel_rfl))
  f299 := Tryz.func75.trans (congrArg some (by kernel_rfl))
  f300 := Tryz.func77.trans (congrArg some (by kernel_rfl))
  f301 := Tryz.func78.trans (congrArg some (by kernel_rfl))
  f328 := Tryz.func85.trans (congrArg some (by kernel_rfl))
  f329 := Tryz.func86.trans (congrArg some (by kernel_rfl))
  f330 := Tryz.func87.trans (congrArg some (by kernel_rfl))
  f331 := Tryz.func88.trans (congrArg some (by kernel_rfl))
  f332 := Tryz.func89.trans (congrArg some (by kernel_rfl))
  f343 := Tryz.func93.trans (congrArg some (by kernel_rfl))
  t0 := Tryz.underlying0
  a0 := Tryz.isAgg0
  z0 := Tryz.sizeOf0
  v0 := Tryz.zeroValue0
  t3 := Tryz.underlying3
  a3 := Tryz.isAgg3
  z3 := Tryz.sizeOf3
  v3 := Tryz.zeroValue3
  t4 := Tryz.underlying4
  a4 := Tryz.isAgg4
  z4 := Tryz.sizeOf4
  v4 := Tryz.zeroValue4
  t5 := Tryz.underlying5
  a5 := Tryz.isAgg5
  z5 := Tryz.sizeOf5
  v5 := Tryz.zeroValue5
  t9 := Tryz.underlying9
  a9 := Tryz.isAgg9
  z9 := Tryz.sizeOf9
  v9 := Tryz.zeroValue9
  t28 := Tryz.underlying23
  a28 := Tryz.isAgg23
  z28 := Tryz.sizeOf23
  v28 := Tryz.zeroValue23
  t46 := Tryz.underlying116
  a46 := Tryz.isAgg116
  z46 := Tryz.sizeOf116
  v46 := Tryz.zeroValue116
  t51 := Tryz.underlying136
  a51 := Tryz.isAgg136
  z51 := Tryz.sizeOf136
  v51 := Tryz.zeroValue136
  t53 := Tryz.underlying138
  a53 := Tryz.isAgg138
  z53 := Tryz.sizeOf138
  v53 := Tryz.zeroValue138
  t131 := Tryz.underlying133
  a131 := Tryz.isAgg133
  z131 := Tryz.sizeOf133
  v131 := Tryz.zeroValue133
  t182 := Tryz.underlying127
  a182 := Tryz.isAgg127
  z182 := Tryz.sizeOf127
  v182 := Tryz.zeroValue127
  t183 := Tryz.underlying128
  a183 := Tryz.isAgg128
  z183 := Tryz.sizeOf128
  v183 := Tryz.zeroValue128
  t218 := Tryz.underlying143
  a218 := Tryz.isAgg143
  z218 := Tryz.sizeOf143
  v218 := Tryz.zeroValue143
  t222 := Tryz.underlying147
  a222 := Tryz.isAgg147
  z222 := Tryz.sizeOf147
  v222 := Tryz.zeroValue147
  t228 := Tryz.underlying150
  a228 := Tryz.isAgg150
  z228 := Tryz.sizeOf150
  v228 := Tryz.zeroValue150
  t229 := Tryz.underlying151
  a229 := Tryz.isAgg151
  z229 := Tryz.sizeOf151
  v229 := Tryz.zeroValue151 }
open Go.Sort Go.RowKit in
theorem Tryz.slices_Sort_int (blk off cap : Nat) (zs : List Int) (w : World) (hH : Holds (Value.int .i64) w blk off zs.toArray) (hblk : blk < w.heap.size) (hsz : zs.length < 4611686018427387904) :
    Calls Tryz.prog 29 #[.slice (some ⟨blk, off, none⟩) zs.length cap] w fun e w' =>
      e = .returned (.tuple #[]) ∧ ∃ n os, w' = grow (putRow (Value.int .i64) (Sort.ahead w n) blk off (zs.mergeSort fun x y => decide (x ≤ y)).toArray) os := Any.slices_Sort_int Tryz.lays189 blk off cap zs w hH hblk hsz
def Tryz.laysNm215_ren : Go.Shelf.Ren := ⟨fun | 15 => 32 | n => n, fun | 22 => 23 | 3 => 3 | 4 => 4 | n => n, fun | n => n⟩
theorem Tryz.laysNm215 : Go.Proofs.Lays2.n15 Tryz.prog Tryz.laysNm215_ren := {
  mixed := by kernel_rfl
  f15 := Tryz.func32.trans (congrArg some (by kernel_rfl))
  t3 := Tryz.underlying3
  a3 := Tryz.isAgg3
  z3 := Tryz.sizeOf3
  v3 := Tryz.zeroValue3
  t4 := Tryz.underlying4
  a4 := Tryz.isAgg4
  z4 := Tryz.sizeOf4
  v4 := Tryz.zeroValue4
  t22 := Tryz.underlying23
  a22 := Tryz.isAgg23
  z22 := Tryz.sizeOf23
  v22 := Tryz.zeroValue23
  i3 := by kernel_rfl }
open Go.RowKit Go.Lib in
/-- slices.Clone at []int: "Clone returns a copy of the slice. The elements are copied using assignment, so this is a shallow clone. The result may have additional unused capacity. The result preserves the nilness of s.": OF A SLICE THAT IS NOT nil IT RETURNS A SLICE THAT IS NOT nil, OF THE SAME ELEMENTS, IN MEMORY OF THE CALL's OWN: in the how-to's words (6f): 'w'.ownsRow B e 1 v' n cells': v' begins at the head of a row among the blocks from B on (B: the heap's size at the call), not frozen, whose first cells are the elements · 'Below B w w'': below B all is as it was. The capacity is whatever the run-time gives. 'zs': what the cells behind the slice's address hold; 'zs.take n': its elements. (LAID: no walk: one application.) -/
theorem Tryz.slices_Clone_int (b off n c : Nat) (zs : List Int) (w : World) (hz : n ≤ zs.length) (hbig : n * 8 ≤ 140737488355328) (hc : ∀ j, j < zs.length → w.cell? ⟨b, off + j, none⟩ = some (.int .i64 (zs.getD j 0))) :
    Calls Tryz.prog 32 #[.slice (some ⟨b, off, none⟩) n c] w fun e w' => ∃ v', e = .returned v' ∧ w'.ownsRow w.heap.size 3 1 v' n ((zs.take n).map (Value.int .i64)) ∧ v' ≠ .slice none 0 0 ∧ Below w.heap.size w w' := Any.slices_Clone_int Tryz.laysNm215 b off n c zs w hz hbig hc
open Go.RowKit Go.Lib in
/-- The same at nil: nil comes back; the world is as it was. (LAID: no walk: one application.) -/
theorem Tryz.slices_Clone_int_nil (n c : Nat) (w : World) :
    Calls Tryz.prog 32 #[.slice none n c] w fun e w' => e = .returned (.slice none 0 0) ∧ w' = w := Any.slices_Clone_int_nil Tryz.laysNm215 n c w
open Go.RowKit Go.Lib in
/-- The same at a slice of length 0 that is not nil, WHATEVER ITS ADDRESS (no cell is asked for): a slice that is not nil and owns nothing comes back. (LAID: no walk: one application.) -/
theorem Tryz.slices_Clone_int_zero (a : Addr) (c : Nat) (w : World) :
    Calls Tryz.prog 32 #[.slice (some a) 0 c] w fun e w' => ∃ v', e = .returned v' ∧ w'.ownsRow w.heap.size 3 1 v' 0 [] ∧ v' ≠ .slice none 0 0 ∧ Below w.heap.size w w' := Any.slices_Clone_int_zero Tryz.laysNm215 a c w
open Go.RowKit Go.Sort in
/-- .. and plain. (LAID: no walk: one application.) -/
theorem Tryz.slices_Sort_int_none (p : Option Addr) (cap : Nat) (w : World) :
    Calls Tryz.prog 29 #[.slice p 0 cap] w fun e w' => e = .returned (.tuple #[]) ∧ w' = w := Any.slices_Sort_int_none Tryz.lays189 p cap w
end Go.Proofs

namespace Go.Proofs.YtpbjpochjagicaaGreatDoorRR
open Go.RowKit

/-- Ascending. -/
def Asc (l : List Int) : Prop := l.Pairwise (· ≤ ·)

theorem insert_perm (n : Int) (l : List Int) : (Pl.insert n l).Perm (l ++ [n]) := by
  induction l with
  | nil => exact List.Perm.refl _
  | cons x l ih =>
    rw [Pl.insert]
    by_cases h : n < x
    · rw [if_pos h]
      exact (List.perm_append_comm (l₁ := [n]) (l₂ := x :: l))
    · rw [if_neg h]; exact ih.cons x
theorem insert_length (n : Int) (l : List Int) : (Pl.insert n l).length = l.length + 1 := by rw [(insert_perm n l).length_eq]; simp
theorem mem_insert {n y : Int} {l : List Int} : y ∈ Pl.insert n l ↔ y = n ∨ y ∈ l := by rw [(insert_perm n l).mem_iff]; simp [or_comm]
theorem asc_insert {l : List Int} (h : Asc l) (n : Int) : Asc (Pl.insert n l) := by
  induction l with
  | nil => exact List.pairwise_singleton _ _
  | cons x l ih =>
    have hx := List.pairwise_cons.1 h
    rw [Pl.insert]
    by_cases hn : n < x
    · rw [if_pos hn]
      refine List.pairwise_cons.2 ⟨fun y hy => ?_, h⟩
      rcases List.mem_cons.1 hy with rfl | hy
      · omega
      · have := hx.1 y hy; omega
    · rw [if_neg hn]
      refine List.pairwise_cons.2 ⟨fun y hy => ?_, ih hx.2⟩
      rcases mem_insert.1 hy with rfl | hy
      · omega
      · exact hx.1 y hy
theorem sort_insert {l : List Int} (h : Asc l) (n : Int) : (l ++ [n]).mergeSort (fun x y => decide (x ≤ y)) = Pl.insert n l := by
  refine List.Perm.eq_of_pairwise (le := fun a b : Int => a ≤ b) (fun a b _ _ h1 h2 => by omega) ?_ (asc_insert h n) ((List.mergeSort_perm _ _).trans (insert_perm n l).symm)
  have := List.pairwise_mergeSort (le := fun x y : Int => decide (x ≤ y)) (by simp; omega) (by simp; omega) (l ++ [n])
  simpa using this

theorem holds_of {w : World} {g : Nat} {e : TypeId} {xs : List Int} {cap : Nat} {base : Nat} (h : w.ownsRow base e 1 (.slice (some ⟨g, 0, none⟩) xs.length cap) xs.length (xs.map (Value.int .i64))) :
    Sort.Holds (Value.int .i64) w g 0 xs.toArray ∧ g < w.heap.size ∧ base ≤ g := by
  rcases h.2 with ⟨h1, _⟩ | ⟨g', cap', cur, h1, hb, hh, hc1, _, hs, ht⟩
  · cases h1
  · injection h1 with h1 _ _
    injection h1 with h1
    injection h1 with h1
    subst h1
    refine ⟨fun j hj => ?_, lt_of_block hh, hb⟩
    have hj' : j < xs.length := by simpa using hj
    refine ⟨?_, by rw [show (0 + j) = j by omega]; simp [World.frozen?, hh]⟩
    rw [cell_of_row w g (0 + j) _ e (0, 0) hh]
    have h2 : (cur.toList.take (xs.length * 1))[j]? = (xs.map (Value.int .i64))[j]? := by rw [ht]
    rw [List.getElem?_take, if_pos (by omega)] at h2
    simp [hj'] at h2
    simp [hj', h2]

theorem putRow_far {w : World} {g off k : Nat} {d : Array Int} (hk : k ≠ g) : (Sort.putRow (Value.int .i64) w g off d).heap[k]? = w.heap[k]? := by
  simp only [Sort.putRow, Sort.mapBlock]
  rw [Array.getElem?_modify, if_neg (Ne.symm hk)]
theorem size_putRow (w : World) (g off : Nat) (d : Array Int) : (Sort.putRow (Value.int .i64) w g off d).heap.size = w.heap.size := by simp [Sort.putRow, Sort.mapBlock]

theorem after_sort {w : World} {g n : Nat} {os : Array Obj} {xs ys : List Int} (hH : Sort.Holds (Value.int .i64) w g 0 xs.toArray) (hg : g < w.heap.size) (hl : ys.length = xs.length) {B : Nat} (hB : B ≤ g) :
    Ints (Sort.grow (Sort.putRow (Value.int .i64) (Sort.ahead w n) g 0 ys.toArray) os) (w.heap.size + os.size) (some ⟨g, 0, none⟩) ys ∧
    Below B w (Sort.grow (Sort.putRow (Value.int .i64) (Sort.ahead w n) g 0 ys.toArray) os) ∧ (Sort.grow (Sort.putRow (Value.int .i64) (Sort.ahead w n) g 0 ys.toArray) os).heap.size = w.heap.size + os.size := by
  have hs : (Sort.grow (Sort.putRow (Value.int .i64) (Sort.ahead w n) g 0 ys.toArray) os).heap.size = w.heap.size + os.size := by rw [Sort.size_grow, size_putRow]; rfl
  refine ⟨fun k x hx => ⟨g, 0, rfl, by omega, ?_⟩, ⟨rfl, rfl, rfl, by omega, fun k hk => ?_⟩, hs⟩
  · have hk : k < ys.length := (List.getElem?_eq_some_iff.1 hx).1
    rw [Sort.cell?_grow _ _ _ (by rw [size_putRow]; exact hg)]
    have h0 := (hH k (by simp; omega)).1
    simp only [World.cell?] at h0 ⊢
    have hblk : (Sort.ahead w n).heap = w.heap := rfl
    simp only [Sort.putRow, Sort.mapBlock, hblk, Array.getElem?_modify, if_pos]
    cases hh : w.heap[g]? with
    | none => rw [hh] at h0; simp at h0
    | some o =>
      rw [hh] at h0
      cases o with
      | cells cur t f =>
        simp only [Option.map_some, Sort.onCells, Sort.putCells] at h0 ⊢
        simp only [Nat.zero_add] at h0 ⊢
        have hcur : k < cur.size := by
          rcases Nat.lt_or_ge k cur.size with h | h
          · exact h
          · simp [h] at h0
        simp [hcur, hk] at hx h0 ⊢
        rw [← hx]
      | _ => simp at h0
  · rw [Sort.heap_grow_old _ _ (by rw [size_putRow]; exact Nat.lt_trans (by omega) hg), putRow_far (by omega)]
    rfl

/-- A fresh list. -/
def FreshInts (w : World) (l : List Int) (e : Ending) (w' : World) : Prop :=
  ∃ g cap, e = .returned (.slice (some ⟨g, 0, none⟩) l.length cap) ∧ w.heap.size ≤ g ∧ Ints w' w'.heap.size (some ⟨g, 0, none⟩) l ∧ Below w.heap.size w w'

set_option maxHeartbeats 1000000 in
theorem with_any (A : Option Addr) (c : Nat) (l : List Int) (n : Int) (w : World) (hl : Ints w w.heap.size A l) (hlen : l.length ≤ 1000) (ha : Asc l) :
    Calls Tryz.prog 60 #[.slice A l.length c, .int .i64 n] w (FreshInts w (Pl.insert n l)) := by
  have hS := sort_insert ha n
  have HS := Lib.hid hS; clear hS ha
  have hClone : Calls Tryz.prog 32 #[.slice A l.length c] w fun e w' => ∃ A' c', e = .returned (.slice A' l.length c') ∧ OwnInts w' w.heap.size A' c' l ∧ Below w.heap.size w w' := by
    rcases hl.form with rfl | ⟨b, off, rfl, hb, hc⟩
    · cases A with
      | none =>
        refine (Tryz.slices_Clone_int_nil 0 c w).mono ?_
        rintro e w' ⟨rfl, rfl⟩
        exact ⟨none, 0, rfl, OwnInts.nil _ _, Below.refl _ _⟩
      | some a =>
        refine (Tryz.slices_Clone_int_zero a c w).mono ?_
        rintro e w' ⟨v', rfl, hown, _, hb⟩
        obtain ⟨A', c', rfl⟩ := own_slice hown
        exact ⟨A', c', rfl, hown, hb⟩
    · refine (Tryz.slices_Clone_int b off l.length c l w (Nat.le_refl _) (by omega) (fun j hj => ?_)).mono ?_
      · rw [hc j hj, List.getD_eq_getElem?_getD, List.getElem?_eq_getElem hj]; rfl
      rintro e w' ⟨v', rfl, hown, _, hb⟩
      obtain ⟨A', c', rfl⟩ := own_slice hown
      rw [List.take_length] at hown
      exact ⟨A', c', rfl, hown, hb⟩
  have HC := Lib.hid hClone; clear hClone hl
  go_enter Tryz.func60, Tryz.ntmps60
  go_wp2_with fail
  refine HC.out.mono ?_
  rintro e w1 ⟨A', c', rfl, hown, hb1⟩
  have Hown := Lib.hid hown; have Hb1 := Lib.hid hb1
  have hs1 := hb1.size
  clear hown hb1
  go_wp2_with (at_builtin; refine wpl_app_ints rfl (.tmp 6) (.tmp 8) 23 rfl w.heap.size Tryz.underlying23 int_info A' c' l rfl (own_alloc Hown.out _) (w1.heap.size + 1) (some ⟨w1.heap.size, 0, none⟩) 1 [n] rfl (ints_one _ _ _ (by simp) (by omega)) (by simp; omega) (by simp; omega) ?_; intro A2 c2 w2 hown2 hg2 hat2)
  obtain ⟨g, hA2⟩ : ∃ g, A2 = some ⟨g, 0, none⟩ := by
    rcases hown2.out.2 with ⟨_, h0⟩ | ⟨g, cap, cur, h1, _⟩
    · simp at h0
    · injection h1 with h1; exact ⟨g, h1⟩
  subst hA2
  obtain ⟨hH, hg, hgb⟩ := holds_of hown2
  have hSort := Tryz.slices_Sort_int g 0 c2 (l ++ [n]) w2 hH hg (by simp; omega)
  have HW2 := Lib.hid (((Hb1.out.alloc hs1 _).grown hg2 (by simp; omega) (own_from Hown.out)) : Below w.heap.size w w2)
  rw [HS.out] at hSort
  simp only [List.length_append, List.length_cons, List.length_nil, Nat.zero_add] at hSort
  have HH := Lib.hid hH; clear hH hown2 hg2 hat2 HC
  refine hSort.mono ?_
  rintro e w3 ⟨rfl, k, os, rfl⟩
  obtain ⟨h1, h2, h3⟩ := after_sort (n := k) (os := os) HH.out hg (ys := Pl.insert n l) (by rw [insert_length]; simp) hgb
  have H1 := Lib.hid h1; have H2 := Lib.hid (HW2.out.trans h2); clear h1 h2 hSort
  rw [← h3] at H1
  have HL : Hid ((Pl.insert n l).length = l.length + 1) := insert_length n l
  generalize Sort.grow (Sort.putRow (Value.int .i64) (Sort.ahead w2 k) g 0 (Pl.insert n l).toArray) os = w3 at H1 H2 ⊢
  clear h3
  go_wp2_with fail
  go_ret
  exact ⟨g, c2, by rw [HL.out]; rfl, hgb, H1.out, H2.out⟩
end Go.Proofs.YtpbjpochjagicaaGreatDoorRR
