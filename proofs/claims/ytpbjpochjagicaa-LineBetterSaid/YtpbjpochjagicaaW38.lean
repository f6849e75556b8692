/- Walks: a net is dealt. -/
import Derived.Test.YtpbjpochjagicaaOt
import Derived.Test.YtpbjpochjagicaaW37
import Derived.Test.YtpbjpochjagicaaW16
namespace Go.Proofs.Ytpbjpochjagicaa
open Go.RowKit

/-- A net under way. -/
structure NetSt (g : Nat) (w wr : World) (st : Int) (ts : List Pl.Trk) (tA : Option Addr) (tc : Nat) : Prop where
  box : wr.heap[w.heap.size + 1]? = some (.cells #[.int .i64 st, .slice tA ts.length tc, .slice none 0 0] 27 (0, 0))
  res : wr.heap[w.heap.size]? = some (.cells #[.int .i64 0, .slice none 0 0, .slice none 0 0] 27 (0, 0))
  row : OwnTrks wr (w.heap.size + 2) tA tc ts
  kb : Kb g w wr
  big : w.heap.size + 2 ≤ wr.heap.size
section
variable {g : Nat} {w wr w2 : World} {st : Int} {ts : List Pl.Trk} {tA : Option Addr} {tc : Nat}
theorem NetSt.bagged (h : NetSt g w wr st ts tA tc) (hg : g < w.heap.size) (hB : Bagged g wr w2) : NetSt g w w2 st ts tA tc :=
  ⟨(hB.block (by omega)).trans h.box, (hB.block (by omega)).trans h.res, (hB.kb h.kb).row (by omega) h.row, h.kb.bagged hB, by have := hB.size; have := h.big; omega⟩
theorem NetSt.alloc (h : NetSt g w wr st ts tA tc) (o : Obj) : NetSt g w (wr.alloc o) st ts tA tc :=
  have := h.big
  ⟨(Below.heap_alloc _ _ _ (by omega)).trans h.box, (Below.heap_alloc _ _ _ (by omega)).trans h.res, World.ownsRow.alloc h.row _, h.kb.alloc _, by simp; omega⟩
theorem NetSt.drew (h : NetSt g w wr st ts tA tc) : NetSt g w wr.drew st ts tA tc := ⟨h.box, h.res, h.row, h.kb.drew, h.big⟩
theorem row_grown {base e size n : Nat} {v : Value} {xs : List Value} {row : Option Nat} (h : wr.ownsRow base e size v n xs) (hg : wr.grownBy w2 row) (hr : ∀ k, row = some k → k < base) : w2.ownsRow base e size v n xs := by
  refine ⟨h.1, ?_⟩
  rcases h.2 with h2 | ⟨b, cap, cur, hv, hg2, hh, r⟩
  · exact .inl h2
  · exact .inr ⟨b, cap, cur, hv, hg2, (hg.block b (lt_of_block hh) (fun e => by have := hr b e.symm; omega)).trans hh, r⟩
theorem NetSt.put {t : Pl.Trk} {A2 : Option Addr} {c2 : Nat} (h : NetSt g w wr st ts tA tc) (hg : g < w.heap.size) (ho : OwnTrks w2 (w.heap.size + 2) A2 c2 (ts ++ [t])) (hg2 : wr.grownBy w2 (Value.slice tA ts.length tc).ownBlock) :
    (w2.cell? ⟨w.heap.size + 1, 1, none⟩ = some (.slice tA ts.length tc) ∧ w2.frozen? ⟨w.heap.size + 1, 1, none⟩ = false) ∧
    NetSt g w (w2.setCell ⟨w.heap.size + 1, 1, none⟩ (.slice A2 (ts.length + 1) c2)) st (ts ++ [t]) A2 c2 := by
  have hbig := h.big
  have hsz := hg2.size
  have hrow : ∀ j, (Value.slice tA ts.length tc).ownBlock = some j → w.heap.size + 2 ≤ j := fun j hj => by
    rcases h.row.2 with ⟨h2, _⟩ | ⟨b, cap, cur, hv, hb, _⟩
    · injection h2 with h2; subst h2; simp [Value.ownBlock] at hj
    · injection hv with hv; subst hv; simp [Value.ownBlock] at hj; omega
  have b2 : w2.heap[w.heap.size + 1]? = _ := (hg2.block _ (by omega) (fun e => by have := hrow _ e.symm; omega)).trans h.box
  have b1 : w2.heap[w.heap.size]? = _ := (hg2.block _ (by omega) (fun e => by have := hrow _ e.symm; omega)).trans h.res
  refine ⟨⟨cell_of_row w2 _ 1 _ 27 (0, 0) b2, by simp [World.frozen?, b2]⟩, ?_, ?_, ownsRow_setCell_below ho (by simp) _, ?_, ?_⟩
  · have := blk_set b2 (i := 1) (.slice A2 (ts.length + 1) c2)
    simpa using this
  · rw [Below.heap_setCell _ _ _ _ (by simp)]; exact b1
  · exact (h.kb.grow hg2 (fun j hj => by have := hrow j hj; omega) hg).setCell (by simp) hg _
  · simp [World.setCell]; omega
theorem NetSt.kept (h : NetSt g w wr st ts tA tc) (hg : g < w.heap.size) (hk : Kb g wr w2) : NetSt g w w2 st ts tA tc :=
  have := h.big
  ⟨(hk.block (by omega) (by omega)).trans h.box, (hk.block (by omega) (by omega)).trans h.res, hk.row (by omega) h.row, h.kb.trans hk, by have := hk.size; omega⟩
/-- A store into a block that is newer than the row. -/
theorem NetSt.upd (h : NetSt g w wr st ts tA tc) (hn : NetSt g w w2 st ts tA tc) (hg : g < w.heap.size) {p : Addr} (hp : wr.heap.size ≤ p.block) (u : Value) : NetSt g w (w2.setCell p u) st ts tA tc := by
  have := h.big
  refine ⟨(Below.heap_setCell _ _ _ _ (by omega)).trans hn.box, (Below.heap_setCell _ _ _ _ (by omega)).trans hn.res, ⟨hn.row.1, ?_⟩, hn.kb.setCell (by omega) hg _, by have := hn.big; simp [World.setCell]; omega⟩
  rcases hn.row.2 with h2 | ⟨b, cap, cur, hv, hg2, hh, r⟩
  · exact .inl h2
  · refine .inr ⟨b, cap, cur, hv, hg2, (Below.heap_setCell _ _ _ _ ?_).trans hh, r⟩
    rcases h.row.2 with ⟨h2, _⟩ | ⟨b', cap', cur', hv', _, hh', _⟩
    · rw [hv] at h2; cases h2
    · rw [hv] at hv'
      injection hv' with hv' _ _
      injection hv' with hv'
      injection hv' with hv' _ _
      subst hv'
      have := lt_of_block hh'
      omega
theorem NetSt.facts (h : NetSt g w wr st ts tA tc) :
    (wr.cell? ⟨w.heap.size + 1, 0, none⟩ = some (.int .i64 st) ∧ wr.cell? ⟨w.heap.size + 1, 1, none⟩ = some (.slice tA ts.length tc) ∧ wr.cell? ⟨w.heap.size + 1, 2, none⟩ = some (.slice none 0 0)) ∧
    (wr.cell? ⟨w.heap.size, 0, none⟩ = some (.int .i64 0) ∧ wr.cell? ⟨w.heap.size, 1, none⟩ = some (.slice none 0 0) ∧ wr.cell? ⟨w.heap.size, 2, none⟩ = some (.slice none 0 0)) ∧
    wr.frozen? ⟨w.heap.size, 0, none⟩ = false ∧ wr.frozen? ⟨w.heap.size, 1, none⟩ = false ∧ wr.frozen? ⟨w.heap.size, 2, none⟩ = false ∧ wr.frozen? ⟨w.heap.size + 1, 1, none⟩ = false ∧ wr.frozen? ⟨w.heap.size + 1, 2, none⟩ = false :=
  ⟨⟨blk_cell h.box 0, blk_cell h.box 1, blk_cell h.box 2⟩, ⟨blk_cell h.res 0, blk_cell h.res 1, blk_cell h.res 2⟩, blk_frozen h.res 0, blk_frozen h.res 1, blk_frozen h.res 2, blk_frozen h.box 1, blk_frozen h.box 2⟩
end
end Go.Proofs.Ytpbjpochjagicaa
