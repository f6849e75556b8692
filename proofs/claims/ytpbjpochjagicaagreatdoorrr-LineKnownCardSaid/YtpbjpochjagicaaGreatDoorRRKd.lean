/- LineKnown: the parts of its code. -/
import Derived.Test.YtpbjpochjagicaaGreatDoorRRWr
import Derived.Test.YtpbjpochjagicaaGreatDoorRRKc
namespace Go.Proofs.YtpbjpochjagicaaGreatDoorRR
open Go.RowKit
/-- What stands behind the first statements of a sequence. -/
def behind : Nat → Code → Code
  | 0, c => c
  | n + 1, .seq _ b => behind n b
  | _, c => c
noncomputable def kbody : Code := Tryz.f3.body.getD .skip
/-- Six new blocks. -/
theorem six_new (w : World) (o1 o2 o3 o4 o5 o6 : Array Value) (t1 t2 t3 t4 t5 t6 : Nat) :
    ∃ W, W = (((((w.alloc (.cells o1 t1)).alloc (.cells o2 t2)).alloc (.cells o3 t3)).alloc (.cells o4 t4)).alloc (.cells o5 t5)).alloc (.cells o6 t6) ∧ Below w.heap.size w W ∧ W.heap.size = w.heap.size + 6 ∧
      W.heap[w.heap.size]? = some (.cells o1 t1 (0, 0)) ∧ W.heap[w.heap.size + 1]? = some (.cells o2 t2 (0, 0)) ∧ W.heap[w.heap.size + 1 + 1]? = some (.cells o3 t3 (0, 0)) ∧
      W.heap[w.heap.size + 1 + 1 + 1]? = some (.cells o4 t4 (0, 0)) ∧ W.heap[w.heap.size + 1 + 1 + 1 + 1]? = some (.cells o5 t5 (0, 0)) ∧ W.heap[w.heap.size + 1 + 1 + 1 + 1 + 1]? = some (.cells o6 t6 (0, 0)) := by
  have n1 := heap_alloc_new w (.cells o1 t1)
  have n2 := heap_alloc_new (w.alloc (.cells o1 t1)) (.cells o2 t2)
  have n3 := heap_alloc_new ((w.alloc (.cells o1 t1)).alloc (.cells o2 t2)) (.cells o3 t3)
  have n4 := heap_alloc_new (((w.alloc (.cells o1 t1)).alloc (.cells o2 t2)).alloc (.cells o3 t3)) (.cells o4 t4)
  have n5 := heap_alloc_new ((((w.alloc (.cells o1 t1)).alloc (.cells o2 t2)).alloc (.cells o3 t3)).alloc (.cells o4 t4)) (.cells o5 t5)
  have n6 := heap_alloc_new (((((w.alloc (.cells o1 t1)).alloc (.cells o2 t2)).alloc (.cells o3 t3)).alloc (.cells o4 t4)).alloc (.cells o5 t5)) (.cells o6 t6)
  simp only [World.size_alloc] at n1 n2 n3 n4 n5 n6
  refine ⟨_, rfl, ?_, by simp, ?_, ?_, ?_, ?_, ?_, n6⟩
  · exact ((((((Below.refl _ _).alloc (Nat.le_refl _) _).alloc (by simp) _).alloc (by simp; omega) _).alloc (by simp; omega) _).alloc (by simp; omega) _).alloc (by simp; omega) _
  · exact blk_alloc (blk_alloc (blk_alloc (blk_alloc (blk_alloc n1 _) _) _) _) _
  · exact blk_alloc (blk_alloc (blk_alloc (blk_alloc n2 _) _) _) _
  · exact blk_alloc (blk_alloc (blk_alloc n3 _) _) _
  · exact blk_alloc (blk_alloc n4 _) _
  · exact blk_alloc n5 _


abbrev KQ (w : World) : Exit → Act → World → Prop := bodyPost Tryz.prog Tryz.f3 fun e w' => e = .returned (.bool true) ∧ Below w.heap.size w w'
end Go.Proofs.YtpbjpochjagicaaGreatDoorRR
