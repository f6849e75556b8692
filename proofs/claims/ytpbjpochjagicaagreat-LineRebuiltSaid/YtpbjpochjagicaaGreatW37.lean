/- Walks: a car is dealt. -/
import Derived.Test.YtpbjpochjagicaaGreatW35
import Derived.Test.YtpbjpochjagicaaGreatW14
namespace Go.Proofs.YtpbjpochjagicaaGreat
open Go.RowKit

/-- Two rows that lie apart. -/
def Apart (A B : Option Addr) : Prop := ∀ p q, A = some p → B = some q → p.block ≠ q.block
theorem Apart.symm {A B : Option Addr} (h : Apart A B) : Apart B A := fun p q hp hq e => h q p hq hp e.symm
theorem Apart.none_left {B : Option Addr} : Apart none B := fun p q hp => by cases hp
theorem own_lt {w : World} {base : Nat} {A : Option Addr} {c : Nat} {xs : List Int} (h : OwnInts w base A c xs) : ∀ p, A = some p → base ≤ p.block ∧ p.block < w.heap.size := fun p hp => by
  subst hp
  rcases h.2 with ⟨h2, _⟩ | ⟨b, cap, cur, hv, hg2, hh, _⟩
  · cases h2
  · injection hv with hv
    injection hv with hv
    subst hv
    exact ⟨hg2, lt_of_block hh⟩
theorem own_other {w w2 : World} {base : Nat} {A B : Option Addr} {n ca c : Nat} {xs : List Int} (h : OwnInts w base B c xs) (hg : w.grownBy w2 (Value.slice A n ca).ownBlock) (hd : Apart A B) : OwnInts w2 base B c xs := by
  refine ⟨h.1, ?_⟩
  rcases h.2 with h2 | ⟨b, cap, cur, hv, hg2, hh, r⟩
  · exact .inl h2
  · refine .inr ⟨b, cap, cur, hv, hg2, (hg.block b (lt_of_block hh) ?_).trans hh, r⟩
    intro e
    rw [ownBlock_slice] at e
    cases A with
    | none => simp at e
    | some p =>
      simp at e
      injection hv with hv
      exact hd p _ rfl hv e.symm
theorem apart_grown {w : World} {base : Nat} {A A2 B : Option Addr} {c : Nat} {xs : List Int} (h : OwnInts w base B c xs) (hat : A2.map (·.block) = A.map (·.block) ∨ A2.map (·.block) = some w.heap.size) (hd : Apart A B) : Apart A2 B := fun p q hp hq e => by
  subst hp
  have := (own_lt h q hq).2
  rcases hat with h1 | h1
  · cases A with
    | none => simp at h1
    | some a => simp at h1; exact hd a q rfl hq (h1.symm.trans e)
  · simp at h1; omega

/-- A car under way: its box behind the block for the result, and three rows of its own. -/
structure CoachSt (g : Nat) (w wr : World) (sz ld : Int) (hk : Bool) (gs bs hs : List Int) (gA bA hA : Option Addr) (gc bc hc : Nat) : Prop where
  box : wr.heap[w.heap.size + 1]? = some (.cells #[.slice gA gs.length gc, .int .i64 sz, .int .i64 ld, .slice bA bs.length bc, .slice hA hs.length hc, .bool hk] 27 (0, 0))
  res : wr.heap[w.heap.size]? = some (.cells #[.slice none 0 0, .int .i64 0, .int .i64 0, .slice none 0 0, .slice none 0 0, .bool false] 27 (0, 0))
  r1 : OwnInts wr (w.heap.size + 2) gA gc gs
  r2 : OwnInts wr (w.heap.size + 2) bA bc bs
  r3 : OwnInts wr (w.heap.size + 2) hA hc hs
  d12 : Apart gA bA
  d13 : Apart gA hA
  d23 : Apart bA hA
  kb : Kb g w wr
  big : w.heap.size + 2 ≤ wr.heap.size
section
variable {g : Nat} {w wr w2 : World} {sz ld : Int} {hk : Bool} {gs bs hs : List Int} {gA bA hA : Option Addr} {gc bc hc : Nat}
theorem CoachSt.bagged (h : CoachSt g w wr sz ld hk gs bs hs gA bA hA gc bc hc) (hg : g < w.heap.size) (hB : Bagged g wr w2) : CoachSt g w w2 sz ld hk gs bs hs gA bA hA gc bc hc :=
  ⟨(hB.block (by omega)).trans h.box, (hB.block (by omega)).trans h.res, (hB.kb h.kb).row (by omega) h.r1, (hB.kb h.kb).row (by omega) h.r2, (hB.kb h.kb).row (by omega) h.r3, h.d12, h.d13, h.d23, h.kb.bagged hB, by have := hB.size; have := h.big; omega⟩
theorem CoachSt.alloc (h : CoachSt g w wr sz ld hk gs bs hs gA bA hA gc bc hc) (o : Obj) : CoachSt g w (wr.alloc o) sz ld hk gs bs hs gA bA hA gc bc hc :=
  have := h.big
  ⟨(Below.heap_alloc _ _ _ (by omega)).trans h.box, (Below.heap_alloc _ _ _ (by omega)).trans h.res, own_alloc h.r1 _, own_alloc h.r2 _, own_alloc h.r3 _, h.d12, h.d13, h.d23, h.kb.alloc _, by simp; omega⟩
theorem cown_set {base : Nat} {A : Option Addr} {c : Nat} {xs : List Int} (h : OwnInts wr base A c xs) {p : Addr} (hp : p.block < base) (u : Value) : OwnInts (wr.setCell p u) base A c xs := ownsRow_setCell_below h hp u
theorem CoachSt.put1 {k : Int} {A2 : Option Addr} {c2 : Nat} (h : CoachSt g w wr sz ld hk gs bs hs gA bA hA gc bc hc) (hg : g < w.heap.size) (ho : OwnInts w2 (w.heap.size + 2) A2 c2 (gs ++ [k])) (hg2 : wr.grownBy w2 (Value.slice gA gs.length gc).ownBlock)
    (hat : A2.map (·.block) = gA.map (·.block) ∨ A2.map (·.block) = some wr.heap.size) :
    (w2.cell? ⟨w.heap.size + 1, 0, none⟩ = some (.slice gA gs.length gc) ∧ w2.frozen? ⟨w.heap.size + 1, 0, none⟩ = false) ∧
    CoachSt g w (w2.setCell ⟨w.heap.size + 1, 0, none⟩ (.slice A2 (gs ++ [k]).length c2)) sz ld hk (gs ++ [k]) bs hs A2 bA hA c2 bc hc := by
  have hbig := h.big
  have hsz := hg2.size
  have hrow : ∀ j, (Value.slice gA gs.length gc).ownBlock = some j → w.heap.size + 2 ≤ j := own_from h.r1
  have b2 : w2.heap[w.heap.size + 1]? = _ := (hg2.block _ (by omega) (fun e => by have := hrow _ e.symm; omega)).trans h.box
  have b1 : w2.heap[w.heap.size]? = _ := (hg2.block _ (by omega) (fun e => by have := hrow _ e.symm; omega)).trans h.res
  refine ⟨⟨cell_of_row w2 _ 0 _ 27 (0, 0) b2, by simp [World.frozen?, b2]⟩, ?_, ?_, cown_set ho (by simp) _, cown_set (own_other h.r2 hg2 h.d12) (by simp) _, cown_set (own_other h.r3 hg2 h.d13) (by simp) _, apart_grown h.r2 hat h.d12, apart_grown h.r3 hat h.d13, h.d23, ?_, ?_⟩
  · have := blk_set b2 (i := 0) (.slice A2 (gs ++ [k]).length c2)
    simpa using this
  · rw [Below.heap_setCell _ _ _ _ (by simp)]; exact b1
  · exact (h.kb.grow hg2 (fun j hj => by have := hrow j hj; omega) hg).setCell (by simp) hg _
  · simp [World.setCell]; omega
theorem CoachSt.put2 {k : Int} {A2 : Option Addr} {c2 : Nat} (h : CoachSt g w wr sz ld hk gs bs hs gA bA hA gc bc hc) (hg : g < w.heap.size) (ho : OwnInts w2 (w.heap.size + 2) A2 c2 (bs ++ [k])) (hg2 : wr.grownBy w2 (Value.slice bA bs.length bc).ownBlock)
    (hat : A2.map (·.block) = bA.map (·.block) ∨ A2.map (·.block) = some wr.heap.size) :
    (w2.cell? ⟨w.heap.size + 1, 3, none⟩ = some (.slice bA bs.length bc) ∧ w2.frozen? ⟨w.heap.size + 1, 3, none⟩ = false) ∧
    CoachSt g w (w2.setCell ⟨w.heap.size + 1, 3, none⟩ (.slice A2 (bs ++ [k]).length c2)) sz ld hk gs (bs ++ [k]) hs gA A2 hA gc c2 hc := by
  have hbig := h.big
  have hsz := hg2.size
  have hrow : ∀ j, (Value.slice bA bs.length bc).ownBlock = some j → w.heap.size + 2 ≤ j := own_from h.r2
  have b2 : w2.heap[w.heap.size + 1]? = _ := (hg2.block _ (by omega) (fun e => by have := hrow _ e.symm; omega)).trans h.box
  have b1 : w2.heap[w.heap.size]? = _ := (hg2.block _ (by omega) (fun e => by have := hrow _ e.symm; omega)).trans h.res
  refine ⟨⟨cell_of_row w2 _ 3 _ 27 (0, 0) b2, by simp [World.frozen?, b2]⟩, ?_, ?_, cown_set (own_other h.r1 hg2 h.d12.symm) (by simp) _, cown_set ho (by simp) _, cown_set (own_other h.r3 hg2 h.d23) (by simp) _, (apart_grown h.r1 hat h.d12.symm).symm, h.d13, apart_grown h.r3 hat h.d23, ?_, ?_⟩
  · have := blk_set b2 (i := 3) (.slice A2 (bs ++ [k]).length c2)
    simpa using this
  · rw [Below.heap_setCell _ _ _ _ (by simp)]; exact b1
  · exact (h.kb.grow hg2 (fun j hj => by have := hrow j hj; omega) hg).setCell (by simp) hg _
  · simp [World.setCell]; omega
theorem CoachSt.put3 {k : Int} {A2 : Option Addr} {c2 : Nat} (h : CoachSt g w wr sz ld hk gs bs hs gA bA hA gc bc hc) (hg : g < w.heap.size) (ho : OwnInts w2 (w.heap.size + 2) A2 c2 (hs ++ [k])) (hg2 : wr.grownBy w2 (Value.slice hA hs.length hc).ownBlock)
    (hat : A2.map (·.block) = hA.map (·.block) ∨ A2.map (·.block) = some wr.heap.size) :
    (w2.cell? ⟨w.heap.size + 1, 4, none⟩ = some (.slice hA hs.length hc) ∧ w2.frozen? ⟨w.heap.size + 1, 4, none⟩ = false) ∧
    CoachSt g w (w2.setCell ⟨w.heap.size + 1, 4, none⟩ (.slice A2 (hs ++ [k]).length c2)) sz ld hk gs bs (hs ++ [k]) gA bA A2 gc bc c2 := by
  have hbig := h.big
  have hsz := hg2.size
  have hrow : ∀ j, (Value.slice hA hs.length hc).ownBlock = some j → w.heap.size + 2 ≤ j := own_from h.r3
  have b2 : w2.heap[w.heap.size + 1]? = _ := (hg2.block _ (by omega) (fun e => by have := hrow _ e.symm; omega)).trans h.box
  have b1 : w2.heap[w.heap.size]? = _ := (hg2.block _ (by omega) (fun e => by have := hrow _ e.symm; omega)).trans h.res
  refine ⟨⟨cell_of_row w2 _ 4 _ 27 (0, 0) b2, by simp [World.frozen?, b2]⟩, ?_, ?_, cown_set (own_other h.r1 hg2 h.d13.symm) (by simp) _, cown_set (own_other h.r2 hg2 h.d23.symm) (by simp) _, cown_set ho (by simp) _, h.d12, (apart_grown h.r1 hat h.d13.symm).symm, (apart_grown h.r2 hat h.d23.symm).symm, ?_, ?_⟩
  · have := blk_set b2 (i := 4) (.slice A2 (hs ++ [k]).length c2)
    simpa using this
  · rw [Below.heap_setCell _ _ _ _ (by simp)]; exact b1
  · exact (h.kb.grow hg2 (fun j hj => by have := hrow j hj; omega) hg).setCell (by simp) hg _
  · simp [World.setCell]; omega
theorem CoachSt.facts (h : CoachSt g w wr sz ld hk gs bs hs gA bA hA gc bc hc) :
    (wr.cell? ⟨w.heap.size + 1, 0, none⟩ = some (.slice gA gs.length gc) ∧ wr.cell? ⟨w.heap.size + 1, 1, none⟩ = some (.int .i64 sz) ∧ wr.cell? ⟨w.heap.size + 1, 2, none⟩ = some (.int .i64 ld) ∧
      wr.cell? ⟨w.heap.size + 1, 3, none⟩ = some (.slice bA bs.length bc) ∧ wr.cell? ⟨w.heap.size + 1, 4, none⟩ = some (.slice hA hs.length hc) ∧ wr.cell? ⟨w.heap.size + 1, 5, none⟩ = some (.bool hk)) ∧
    (wr.cell? ⟨w.heap.size, 0, none⟩ = some (.slice none 0 0) ∧ wr.cell? ⟨w.heap.size, 1, none⟩ = some (.int .i64 0) ∧ wr.cell? ⟨w.heap.size, 2, none⟩ = some (.int .i64 0) ∧
      wr.cell? ⟨w.heap.size, 3, none⟩ = some (.slice none 0 0) ∧ wr.cell? ⟨w.heap.size, 4, none⟩ = some (.slice none 0 0) ∧ wr.cell? ⟨w.heap.size, 5, none⟩ = some (.bool false)) ∧
    wr.frozen? ⟨w.heap.size, 0, none⟩ = false ∧ wr.frozen? ⟨w.heap.size, 1, none⟩ = false ∧ wr.frozen? ⟨w.heap.size, 2, none⟩ = false ∧ wr.frozen? ⟨w.heap.size, 3, none⟩ = false ∧ wr.frozen? ⟨w.heap.size, 4, none⟩ = false ∧ wr.frozen? ⟨w.heap.size, 5, none⟩ = false ∧
    wr.frozen? ⟨w.heap.size + 1, 0, none⟩ = false :=
  ⟨⟨blk_cell h.box 0, blk_cell h.box 1, blk_cell h.box 2, blk_cell h.box 3, blk_cell h.box 4, blk_cell h.box 5⟩, ⟨blk_cell h.res 0, blk_cell h.res 1, blk_cell h.res 2, blk_cell h.res 3, blk_cell h.res 4, blk_cell h.res 5⟩,
    blk_frozen h.res 0, blk_frozen h.res 1, blk_frozen h.res 2, blk_frozen h.res 3, blk_frozen h.res 4, blk_frozen h.res 5, blk_frozen h.box 0⟩
end
theorem own_at {w : World} {b base : Nat} {x : Int} (h : w.heap[b]? = some (.cells #[.int .i64 x] 3 (0, 0))) (hb : base ≤ b) : OwnInts w base (some ⟨b, 0, none⟩) 1 [x] :=
  ⟨by simp, .inr ⟨b, 1, #[.int .i64 x], rfl, hb, h, by simp, by decide, by simp, by simp⟩⟩
theorem CoachSt.fin {g : Nat} {w w4 : World} {sz ld : Int} {hk : Bool} {gs bs hs : List Int} {gA bA hA : Option Addr} {gc bc hc : Nat} (h : CoachSt g w w4 sz ld hk gs bs hs gA bA hA gc bc hc) (hg : g < w.heap.size) (x : Int) (v0 v1 v2 v3 v4 v5 v6 : Value) :
    OwnInts ((((((((w4.setCell ⟨w.heap.size + 1, 0, none⟩ v0).setCell ⟨w.heap.size, 0, none⟩ v1).setCell ⟨w.heap.size, 1, none⟩ v2).setCell ⟨w.heap.size, 2, none⟩ v3).setCell ⟨w.heap.size, 3, none⟩ v4).setCell ⟨w.heap.size, 4, none⟩ v5).setCell ⟨w.heap.size, 5, none⟩ v6).alloc (.cells #[.int .i64 x] 3)) (w.heap.size + 2) (some ⟨w4.heap.size, 0, none⟩) 1 [x] ∧
    OwnInts ((((((((w4.setCell ⟨w.heap.size + 1, 0, none⟩ v0).setCell ⟨w.heap.size, 0, none⟩ v1).setCell ⟨w.heap.size, 1, none⟩ v2).setCell ⟨w.heap.size, 2, none⟩ v3).setCell ⟨w.heap.size, 3, none⟩ v4).setCell ⟨w.heap.size, 4, none⟩ v5).setCell ⟨w.heap.size, 5, none⟩ v6).alloc (.cells #[.int .i64 x] 3)) (w.heap.size + 2) bA bc bs ∧
    OwnInts ((((((((w4.setCell ⟨w.heap.size + 1, 0, none⟩ v0).setCell ⟨w.heap.size, 0, none⟩ v1).setCell ⟨w.heap.size, 1, none⟩ v2).setCell ⟨w.heap.size, 2, none⟩ v3).setCell ⟨w.heap.size, 3, none⟩ v4).setCell ⟨w.heap.size, 4, none⟩ v5).setCell ⟨w.heap.size, 5, none⟩ v6).alloc (.cells #[.int .i64 x] 3)) (w.heap.size + 2) hA hc hs ∧
    Kb g w ((((((((w4.setCell ⟨w.heap.size + 1, 0, none⟩ v0).setCell ⟨w.heap.size, 0, none⟩ v1).setCell ⟨w.heap.size, 1, none⟩ v2).setCell ⟨w.heap.size, 2, none⟩ v3).setCell ⟨w.heap.size, 3, none⟩ v4).setCell ⟨w.heap.size, 4, none⟩ v5).setCell ⟨w.heap.size, 5, none⟩ v6).alloc (.cells #[.int .i64 x] 3)) := by
  have hb := h.big
  have e : ((((((((w4.setCell ⟨w.heap.size + 1, 0, none⟩ v0).setCell ⟨w.heap.size, 0, none⟩ v1).setCell ⟨w.heap.size, 1, none⟩ v2).setCell ⟨w.heap.size, 2, none⟩ v3).setCell ⟨w.heap.size, 3, none⟩ v4).setCell ⟨w.heap.size, 4, none⟩ v5).setCell ⟨w.heap.size, 5, none⟩ v6).heap.size) = w4.heap.size := by simp only [size_setCell]
  refine ⟨own_at ?_ (by omega), own_alloc (cown_set (cown_set (cown_set (cown_set (cown_set (cown_set (cown_set (h.r2) (by simp) _) (by simp) _) (by simp) _) (by simp) _) (by simp) _) (by simp) _) (by simp) _) _, own_alloc (cown_set (cown_set (cown_set (cown_set (cown_set (cown_set (cown_set (h.r3) (by simp) _) (by simp) _) (by simp) _) (by simp) _) (by simp) _) (by simp) _) (by simp) _) _, (Kb.setCell (Kb.setCell (Kb.setCell (Kb.setCell (Kb.setCell (Kb.setCell (Kb.setCell (h.kb) (by simp) hg _) (by simp) hg _) (by simp) hg _) (by simp) hg _) (by simp) hg _) (by simp) hg _) (by simp) hg _).alloc _⟩
  rw [← e]
  exact heap_alloc_new _ _
theorem rising_one {x lo hi oe : Int} (h1 : lo ≤ x) (h2 : x ≤ hi) : Pl.rising [x] lo hi oe = 0 := rising_from_of lo hi oe [x] none (by simp) (fun y hy => by simp at hy; omega) (fun p hp => by cases hp)
theorem Upw.rising_below {lo k hi : Int} {xs : List Int} (h : Upw lo k xs) (oe : Int) (hk : k ≤ hi + 1) : Pl.rising xs lo hi oe = 0 :=
  rising_from_of lo hi oe xs none h.up (fun x hx => by have := h.inn x hx; omega) (fun p hp => by cases hp)

/-- What CoachOf deals. -/
def CoachPost (g : Nat) (w : World) (e : Ending) (w' : World) : Prop := ∃ (c : Pl.Cch) (c_gA c_bA c_hA : Option Addr) (c_gc c_bc c_hc : Nat), e = .returned (.agg #[.slice c_gA c.gauges.length c_gc, .int .i64 c.size, .int .i64 c.load, .slice c_bA c.brakes.length c_bc, .slice c_hA c.heats.length c_hc, .bool c.hooks]) ∧ OwnInts w' (w.heap.size + 2) c_gA c_gc c.gauges ∧ OwnInts w' (w.heap.size + 2) c_bA c_bc c.brakes ∧ OwnInts w' (w.heap.size + 2) c_hA c_hc c.heats ∧
  (0 < c.gauges.length ∧ Pl.rising c.gauges 1 3 1 = 0 ∧ Pl.rising c.brakes 1 3 1 = 0 ∧ Pl.rising c.heats 1 3 1 = 0 ∧ 2 ≤ c.size ∧ c.size ≤ 5 ∧ 6 ≤ c.load ∧ c.load ≤ 12 ∧ c.gauges.length ≤ 3 ∧ c.brakes.length ≤ 3 ∧ c.heats.length ≤ 3) ∧ Kb g w w'

set_option maxRecDepth 20000 in
set_option maxHeartbeats 4000000 in
theorem coach_any (g : Nat) (w : World) (hb : BagAt w g) : Calls Tryz.prog 33 #[.pointer (some ⟨g, 0, none⟩)] w (CoachPost g w) := by
  have hg := hb.lt
  have hK0 := Lib.hid (Kb.refl hb)
  go_enter Tryz.func33, Tryz.ntmps33
  go_wp2_with fail
  refine (from_any g _ _ _ (hb.alloc _) (by omega) (by omega) (by omega) (by omega)).mono ?_
  rintro e w1 ⟨sz, rfl, hs1, hs2, hB1⟩
  have k1 := (hK0.out.alloc _).bagged hB1
  go_wp2_with fail
  refine (from_any g _ _ _ k1.bag (by omega) (by omega) (by omega) (by omega)).mono ?_
  rintro e w2 ⟨ld, rfl, hl1, hl2, hB2⟩
  have k2 := k1.bagged hB2
  go_wp2_with fail
  refine (chance_any g _ _ _ k2.bag (by omega) (by omega)).mono ?_
  rintro e w3 ⟨hk, rfl, hB3⟩
  have k3 := k2.bagged hB3
  have e3 : w3.heap.size = w.heap.size + 1 := by rw [hB3.size, hB2.size, hB1.size]; simp
  have hres : w3.heap[w.heap.size]? = some (.cells #[.slice none 0 0, .int .i64 0, .int .i64 0, .slice none 0 0, .slice none 0 0, .bool false] 27 (0, 0)) := by
    rw [hB3.block (by omega), hB2.block (by omega), hB1.block (by omega)]; exact heap_alloc_new w _
  have st0 : CoachSt g w (w3.alloc (.cells #[.slice none 0 0, .int .i64 sz, .int .i64 ld, .slice none 0 0, .slice none 0 0, .bool hk] 27)) sz ld hk [] [] [] none none none 0 0 0 :=
    ⟨by rw [← e3]; exact heap_alloc_new w3 _, (Below.heap_alloc _ _ _ (by omega)).trans hres, OwnInts.nil _ _, OwnInts.nil _ _, OwnInts.nil _ _, Apart.none_left, Apart.none_left, Apart.none_left, k3.alloc _, by simp; omega⟩
  have st := Lib.hid st0
  clear st0 hK0 k1 k2 k3 hres
  go_wp2_with fail
  go_loopw [4] (fun i wr => ∃ (k : Nat) (gs bs hs : List Int) (gA bA hA : Option Addr) (gc bc hc : Nat), 1 ≤ k ∧ k ≤ 4 ∧ i = .int .i64 k ∧ CoachSt g w wr sz ld hk gs bs hs gA bA hA gc bc hc ∧ Upw 1 k gs ∧ Upw 1 k bs ∧ Upw 1 k hs) (fun i _ => 4 - (intOf i).toNat)
  case atStart => exact ⟨1, [], [], [], none, none, none, 0, 0, 0, by omega, by omega, rfl, st.out, Upw.nil (by omega), Upw.nil (by omega), Upw.nil (by omega)⟩
  case round =>
    obtain ⟨k, gs, bs, hs, gA, bA, hA, gc, bc, hc, hk1, hk4, rfl, s0, u1, u2, u3⟩ := hrel
    clear st
    have l1 := u1.len
    have l2 := u2.len
    have l3 := u3.len
    have hbig := s0.big
    by_cases hlt : k < 4
    · have hki : (k : Int) ≤ 3 := by omega
      go_wp2_with fail
      refine (chance_any g _ _ _ s0.kb.bag (by omega) (by omega)).mono ?_
      rintro e v0 ⟨b, rfl, hB0⟩
      have t0 := s0.bagged hg hB0
      cases b
      · go_wp2_with fail
        refine (chance_any g _ _ _ t0.kb.bag (by omega) (by omega)).mono ?_
        rintro e v1 ⟨b, rfl, hB1⟩
        have t1 := t0.bagged hg hB1
        cases b
        · go_wp2_with fail
          refine (chance_any g _ _ _ t1.kb.bag (by omega) (by omega)).mono ?_
          rintro e v2 ⟨b, rfl, hB2⟩
          have t2 := t1.bagged hg hB2
          cases b
          · go_wp2_with fail
            go_roundw
            · exact ⟨k + 1, _, _, _, _, _, _, _, _, _, by omega, by omega, by go_num, t2, u1.more, u2.more, u3.more⟩
            · simp [intOf]; omega
          · have q2 := cell_of_row _ _ 4 _ 27 (0, 0) t2.box
            have z2 := t2.big
            go_wp2_with (at_builtin; refine wpl_app_ints rfl (.tmp 35) (.tmp 37) 23 rfl (w.heap.size + 2) Tryz.underlying23 int_info hA hc hs rfl (own_alloc t2.r3 _) (v2.heap.size + 1) (some ⟨v2.heap.size, 0, none⟩) 1 [(k : Int)] rfl (ints_one _ _ _ (by simp) (by omega)) (by simp; omega) (by simp; omega) ?_; intro A2 c2 x2 hown hg2 hat; have hput := (t2.alloc _).put3 hg hown hg2 hat; clear hown hg2 hat; obtain ⟨⟨hc2, hf2⟩, y2⟩ := hput; have y2 := Lib.hid y2; (try simp only [List.length_append, List.length_singleton] at *))
            go_roundw
            · exact ⟨k + 1, _, _, _, _, _, _, _, _, _, by omega, by omega, by go_num, y2.out, u1.more, u2.more, u3.snoc (by omega)⟩
            · simp [intOf]; omega
        · have q1 := cell_of_row _ _ 3 _ 27 (0, 0) t1.box
          have z1 := t1.big
          go_wp2_with (at_builtin; refine wpl_app_ints rfl (.tmp 27) (.tmp 29) 23 rfl (w.heap.size + 2) Tryz.underlying23 int_info bA bc bs rfl (own_alloc t1.r2 _) (v1.heap.size + 1) (some ⟨v1.heap.size, 0, none⟩) 1 [(k : Int)] rfl (ints_one _ _ _ (by simp) (by omega)) (by simp; omega) (by simp; omega) ?_; intro A1 c1 x1 hown hg2 hat; have hput := (t1.alloc _).put2 hg hown hg2 hat; clear hown hg2 hat; obtain ⟨⟨hc1, hf1⟩, y1⟩ := hput; have y1 := Lib.hid y1; (try simp only [List.length_append, List.length_singleton] at *))
          go_wp2_with fail
          refine (chance_any g _ _ _ y1.out.kb.bag (by omega) (by omega)).mono ?_
          rintro e v2 ⟨b, rfl, hB2⟩
          have t2 := y1.out.bagged hg hB2
          cases b
          · go_wp2_with fail
            go_roundw
            · exact ⟨k + 1, _, _, _, _, _, _, _, _, _, by omega, by omega, by go_num, t2, u1.more, u2.snoc (by omega), u3.more⟩
            · simp [intOf]; omega
          · have q2 := cell_of_row _ _ 4 _ 27 (0, 0) t2.box
            have z2 := t2.big
            go_wp2_with (at_builtin; refine wpl_app_ints rfl (.tmp 35) (.tmp 37) 23 rfl (w.heap.size + 2) Tryz.underlying23 int_info hA hc hs rfl (own_alloc t2.r3 _) (v2.heap.size + 1) (some ⟨v2.heap.size, 0, none⟩) 1 [(k : Int)] rfl (ints_one _ _ _ (by simp) (by omega)) (by simp; omega) (by simp; omega) ?_; intro A2 c2 x2 hown hg2 hat; have hput := (t2.alloc _).put3 hg hown hg2 hat; clear hown hg2 hat; obtain ⟨⟨hc2, hf2⟩, y2⟩ := hput; have y2 := Lib.hid y2; (try simp only [List.length_append, List.length_singleton] at *))
            go_roundw
            · exact ⟨k + 1, _, _, _, _, _, _, _, _, _, by omega, by omega, by go_num, y2.out, u1.more, u2.snoc (by omega), u3.snoc (by omega)⟩
            · simp [intOf]; omega
      · have q0 := cell_of_row _ _ 0 _ 27 (0, 0) t0.box
        have z0 := t0.big
        go_wp2_with (at_builtin; refine wpl_app_ints rfl (.tmp 19) (.tmp 21) 23 rfl (w.heap.size + 2) Tryz.underlying23 int_info gA gc gs rfl (own_alloc t0.r1 _) (v0.heap.size + 1) (some ⟨v0.heap.size, 0, none⟩) 1 [(k : Int)] rfl (ints_one _ _ _ (by simp) (by omega)) (by simp; omega) (by simp; omega) ?_; intro A0 c0 x0 hown hg2 hat; have hput := (t0.alloc _).put1 hg hown hg2 hat; clear hown hg2 hat; obtain ⟨⟨hc0, hf0⟩, y0⟩ := hput; have y0 := Lib.hid y0; (try simp only [List.length_append, List.length_singleton] at *))
        go_wp2_with fail
        refine (chance_any g _ _ _ y0.out.kb.bag (by omega) (by omega)).mono ?_
        rintro e v1 ⟨b, rfl, hB1⟩
        have t1 := y0.out.bagged hg hB1
        cases b
        · go_wp2_with fail
          refine (chance_any g _ _ _ t1.kb.bag (by omega) (by omega)).mono ?_
          rintro e v2 ⟨b, rfl, hB2⟩
          have t2 := t1.bagged hg hB2
          cases b
          · go_wp2_with fail
            go_roundw
            · exact ⟨k + 1, _, _, _, _, _, _, _, _, _, by omega, by omega, by go_num, t2, u1.snoc (by omega), u2.more, u3.more⟩
            · simp [intOf]; omega
          · have q2 := cell_of_row _ _ 4 _ 27 (0, 0) t2.box
            have z2 := t2.big
            go_wp2_with (at_builtin; refine wpl_app_ints rfl (.tmp 35) (.tmp 37) 23 rfl (w.heap.size + 2) Tryz.underlying23 int_info hA hc hs rfl (own_alloc t2.r3 _) (v2.heap.size + 1) (some ⟨v2.heap.size, 0, none⟩) 1 [(k : Int)] rfl (ints_one _ _ _ (by simp) (by omega)) (by simp; omega) (by simp; omega) ?_; intro A2 c2 x2 hown hg2 hat; have hput := (t2.alloc _).put3 hg hown hg2 hat; clear hown hg2 hat; obtain ⟨⟨hc2, hf2⟩, y2⟩ := hput; have y2 := Lib.hid y2; (try simp only [List.length_append, List.length_singleton] at *))
            go_roundw
            · exact ⟨k + 1, _, _, _, _, _, _, _, _, _, by omega, by omega, by go_num, y2.out, u1.snoc (by omega), u2.more, u3.snoc (by omega)⟩
            · simp [intOf]; omega
        · have q1 := cell_of_row _ _ 3 _ 27 (0, 0) t1.box
          have z1 := t1.big
          go_wp2_with (at_builtin; refine wpl_app_ints rfl (.tmp 27) (.tmp 29) 23 rfl (w.heap.size + 2) Tryz.underlying23 int_info bA bc bs rfl (own_alloc t1.r2 _) (v1.heap.size + 1) (some ⟨v1.heap.size, 0, none⟩) 1 [(k : Int)] rfl (ints_one _ _ _ (by simp) (by omega)) (by simp; omega) (by simp; omega) ?_; intro A1 c1 x1 hown hg2 hat; have hput := (t1.alloc _).put2 hg hown hg2 hat; clear hown hg2 hat; obtain ⟨⟨hc1, hf1⟩, y1⟩ := hput; have y1 := Lib.hid y1; (try simp only [List.length_append, List.length_singleton] at *))
          go_wp2_with fail
          refine (chance_any g _ _ _ y1.out.kb.bag (by omega) (by omega)).mono ?_
          rintro e v2 ⟨b, rfl, hB2⟩
          have t2 := y1.out.bagged hg hB2
          cases b
          · go_wp2_with fail
            go_roundw
            · exact ⟨k + 1, _, _, _, _, _, _, _, _, _, by omega, by omega, by go_num, t2, u1.snoc (by omega), u2.snoc (by omega), u3.more⟩
            · simp [intOf]; omega
          · have q2 := cell_of_row _ _ 4 _ 27 (0, 0) t2.box
            have z2 := t2.big
            go_wp2_with (at_builtin; refine wpl_app_ints rfl (.tmp 35) (.tmp 37) 23 rfl (w.heap.size + 2) Tryz.underlying23 int_info hA hc hs rfl (own_alloc t2.r3 _) (v2.heap.size + 1) (some ⟨v2.heap.size, 0, none⟩) 1 [(k : Int)] rfl (ints_one _ _ _ (by simp) (by omega)) (by simp; omega) (by simp; omega) ?_; intro A2 c2 x2 hown hg2 hat; have hput := (t2.alloc _).put3 hg hown hg2 hat; clear hown hg2 hat; obtain ⟨⟨hc2, hf2⟩, y2⟩ := hput; have y2 := Lib.hid y2; (try simp only [List.length_append, List.length_singleton] at *))
            go_roundw
            · exact ⟨k + 1, _, _, _, _, _, _, _, _, _, by omega, by omega, by go_num, y2.out, u1.snoc (by omega), u2.snoc (by omega), u3.snoc (by omega)⟩
            · simp [intOf]; omega
    · have hki : 3 < (k : Int) := by omega
      have hk5 := Lib.hid hk4
      clear hk1 hk4 hlt
      have s1 := Lib.hid s0
      obtain ⟨⟨x0, x1, x2, x3, x4, x5⟩, ⟨y0, y1, y2, y3, y4, y5⟩, z0, z1, z2, z3, z4, z5, zb⟩ := s0.facts
      clear s0
      by_cases hz : gs = []
      · subst hz
        go_wp2_with fail
        refine (from_any g _ _ _ s1.out.kb.bag (by omega) (by omega) (by omega) (by omega)).mono ?_
        rintro e w4 ⟨x, rfl, hx1, hx2, hB4⟩
        have s4 := Lib.hid (s1.out.bagged hg hB4)
        clear x0 x1 x2 x3 x4 x5 y0 y1 y2 y3 y4 y5 z0 z1 z2 z3 z4 z5 zb
        obtain ⟨⟨x0, x1, x2, x3, x4, x5⟩, ⟨y0, y1, y2, y3, y4, y5⟩, z0, z1, z2, z3, z4, z5, zb⟩ := s4.out.facts
        have e4 := s4.out.big
        have e5 : w.heap.size < w4.heap.size := by omega
        have e6 : w.heap.size + 1 < w4.heap.size := by omega
        go_wp2_with fail
        refine bodyPost_ret (v := .agg #[.slice (some ⟨w4.heap.size, 0, none⟩) 1 1, .int .i64 sz, .int .i64 ld, .slice bA bs.length bc, .slice hA hs.length hc, .bool hk]) (by simp [results, Tryz.results33, go_sem, e5, y0, y1, y2, y3, y4, y5]) rfl ?_
        have hk4 := hk5.out
        have hF := s4.out.fin hg x
        exact ⟨⟨[x], sz, ld, bs, hs, hk⟩, some ⟨w4.heap.size, 0, none⟩, bA, hA, 1, bc, hc, rfl, (hF _ _ _ _ _ _ _).1, (hF _ _ _ _ _ _ _).2.1, (hF _ _ _ _ _ _ _).2.2.1,
          ⟨by simp, rising_one (by omega) (by omega), u2.rising_below _ (by omega), u3.rising_below _ (by omega), hs1, by show sz ≤ 5; omega, hl1, by show ld ≤ 12; omega, by simp, by show bs.length ≤ 3; omega, by show hs.length ≤ 3; omega⟩, (hF _ _ _ _ _ _ _).2.2.2⟩
      · have hne : ((gs.length : Int) == 0) = false := by rw [beq_eq_false_iff_ne]; intro e; exact hz (List.eq_nil_of_length_eq_zero (by omega))
        go_wp2_with fail
        refine bodyPost_ret (v := .agg #[.slice gA gs.length gc, .int .i64 sz, .int .i64 ld, .slice bA bs.length bc, .slice hA hs.length hc, .bool hk]) (by simp [results, Tryz.results33, go_sem, y0, y1, y2, y3, y4, y5]) rfl ?_
        have hk4 := hk5.out
        exact ⟨⟨gs, sz, ld, bs, hs, hk⟩, gA, bA, hA, gc, bc, hc, rfl, (cown_set (cown_set (cown_set (cown_set (cown_set (cown_set (s1.out.r1) (by simp) _) (by simp) _) (by simp) _) (by simp) _) (by simp) _) (by simp) _), (cown_set (cown_set (cown_set (cown_set (cown_set (cown_set (s1.out.r2) (by simp) _) (by simp) _) (by simp) _) (by simp) _) (by simp) _) (by simp) _), (cown_set (cown_set (cown_set (cown_set (cown_set (cown_set (s1.out.r3) (by simp) _) (by simp) _) (by simp) _) (by simp) _) (by simp) _) (by simp) _),
          ⟨List.length_pos_iff.2 hz, u1.rising_below _ (by omega), u2.rising_below _ (by omega), u3.rising_below _ (by omega), hs1, by show sz ≤ 5; omega, hl1, by show ld ≤ 12; omega, by show gs.length ≤ 3; omega, by show bs.length ≤ 3; omega, by show hs.length ≤ 3; omega⟩, (Kb.setCell (Kb.setCell (Kb.setCell (Kb.setCell (Kb.setCell (Kb.setCell (s1.out.kb) (by simp) hg _) (by simp) hg _) (by simp) hg _) (by simp) hg _) (by simp) hg _) (by simp) hg _)⟩
end Go.Proofs.YtpbjpochjagicaaGreat
