/- What the laws' questions are once they are made: bag, made, box (by gen_zq.py). -/
import Derived.Test.YtpbjpochjagicaaGreatQa
import Derived.Test.YtpbjpochjagicaaGreatFl
import Derived.Test.YtpbjpochjagicaaGreatW83
namespace Go.Proofs.YtpbjpochjagicaaGreat
open Go.RowKit

/-- All that is no box of questions stands. -/
def Oth (W W' : World) : Prop := ∀ (b : Nat) (cs : Array Value) (t : TypeId), W.heap[b]? = some (.cells cs t (0, 0)) → t ≠ 33 → W'.heap[b]? = some (.cells cs t (0, 0))
theorem Oth.set {W : World} {X i : Nat} {u : Value} {z : Array Value} (h : W.heap[X]? = some (.cells z 33 (0, 0))) : Oth W (W.setCell ⟨X, i, none⟩ u) := fun b cs t hb ht => by
  refine (Below.heap_setCell W ⟨X, i, none⟩ u b (fun e => ?_)).trans hb
  have e : b = X := e
  subst e
  rw [h] at hb
  injection hb with hb
  injection hb with _ hb _
  exact ht hb.symm
theorem Oth.trans {W W' W2 : World} (h : Oth W W') (k : Oth W' W2) : Oth W W2 := fun b cs t hb ht => k b cs t (h b cs t hb ht) ht
theorem row_oth {W W' : World} {base size n : Nat} {e : TypeId} {v : Value} {xs : List Value} (h : W.ownsRow base e size v n xs) (he : e ≠ 33) (ho : Oth W W') : W'.ownsRow base e size v n xs := by
  refine ⟨h.1, ?_⟩
  rcases h.2 with h2 | ⟨g, cap, cur, hv, hg, hh, r⟩
  · exact .inl h2
  · exact .inr ⟨g, cap, cur, hv, hg, ho g cur e hh he, r⟩
theorem Dealt.oth {g B P Q : Nat} {w w' : World} {n : Pl.Nt} {n_tA n_sA : Option Addr} {n_tc n_sc : Nat} {c : Pl.Cch} {c_gA c_bA c_hA : Option Addr} {c_gc c_bc c_hc : Nat} (h : Dealt g B P Q w n n_tA n_sA n_tc n_sc c c_gA c_bA c_hA c_gc c_bc c_hc) (ho : Oth w w') : Dealt g B P Q w' n n_tA n_sA n_tc n_sc c c_gA c_bA c_hA c_gc c_bc c_hc :=
  { h with
    tr := row_oth h.tr (by decide) ho, sh := row_oth h.sh (by decide) ho, ga := row_oth h.ga (by decide) ho, br := row_oth h.br (by decide) ho, he := row_oth h.he (by decide) ho
    b4 := ho _ _ _ h.b4 (by decide), b5 := ho _ _ _ h.b5 (by decide), bag := let ⟨s, hs⟩ := h.bag; ⟨s, ho _ _ _ hs (by decide)⟩ }
def Z33o : Obj := .cells #[.slice none 0 0, .slice none 0 0, .slice none 0 0, .slice none 0 0, .slice none 0 0] 33 (0, 0)
/-- What made leaves. -/
def MadeAt (a : Pl.Nt) (a_tA a_sA : Option Addr) (a_tc a_sc : Nat) (z : Pl.Cch) (z_gA z_bA z_hA : Option Addr) (z_gc z_bc z_hc : Nat) (p1 p2 p3 : Int) (H : Nat) (v : Value) (W : World) : Prop := ∃ (g B base P Q : Nat) (n : Pl.Nt) (n_tA n_sA : Option Addr) (n_tc n_sc : Nat) (c : Pl.Cch) (c_gA c_bA c_hA : Option Addr) (c_gc c_bc c_hc : Nat) (fr ga ds : Int), v = .agg #[.slice (some ⟨B, 0, none⟩) 5 5, .slice (some ⟨B + 1, 0, none⟩) 5 5, .slice (some ⟨B + 1 + 1, 0, none⟩) 5 5, .slice (some ⟨B + 1 + 1 + 1, 0, none⟩) 5 5, .slice (some ⟨B + 1 + 1 + 1 + 1, 0, none⟩) 5 5] ∧ (W.heap[B]? = some (.cells #[.int .i64 a.stops, .slice a_tA a.tracks.length a_tc, .slice a_sA a.shops.length a_sc, .int .i64 n.stops, .slice n_tA n.tracks.length n_tc, .slice n_sA n.shops.length n_sc, .int .i64 n.stops, .slice n_tA n.tracks.length n_tc, .slice n_sA n.shops.length n_sc, .int .i64 a.stops, .slice a_tA a.tracks.length a_tc, .slice a_sA a.shops.length a_sc, .int .i64 n.stops, .slice n_tA n.tracks.length n_tc, .slice n_sA n.shops.length n_sc] 25 (0, 0)) ∧ W.heap[B + 1]? = some (.cells #[.slice z_gA z.gauges.length z_gc, .int .i64 z.size, .int .i64 z.load, .slice z_bA z.brakes.length z_bc, .slice z_hA z.heats.length z_hc, .bool z.hooks, .slice c_gA c.gauges.length c_gc, .int .i64 c.size, .int .i64 c.load, .slice c_bA c.brakes.length c_bc, .slice c_hA c.heats.length c_hc, .bool c.hooks, .slice z_gA z.gauges.length z_gc, .int .i64 z.size, .int .i64 z.load, .slice z_bA z.brakes.length z_bc, .slice z_hA z.heats.length z_hc, .bool z.hooks, .slice c_gA c.gauges.length c_gc, .int .i64 c.size, .int .i64 c.load, .slice c_bA c.brakes.length c_bc, .slice c_hA c.heats.length c_hc, .bool c.hooks, .slice c_gA c.gauges.length c_gc, .int .i64 c.size, .int .i64 c.load, .slice c_bA c.brakes.length c_bc, .slice c_hA c.heats.length c_hc, .bool c.hooks] 27 (0, 0)) ∧ W.heap[B + 1 + 1]? = some (.cells #[.int .i64 p1, .int .i64 fr, .int .i64 fr, .int .i64 p1, .int .i64 p1] 3 (0, 0)) ∧ W.heap[B + 1 + 1 + 1]? = some (.cells #[.int .i64 p2, .int .i64 ga, .int .i64 p2, .int .i64 ga, .int .i64 p2] 3 (0, 0)) ∧ W.heap[B + 1 + 1 + 1 + 1]? = some (.cells #[.int .i64 p3, .int .i64 ds, .int .i64 ds, .int .i64 p3, .int .i64 p3] 3 (0, 0))) ∧ Dealt g base P Q W n n_tA n_sA n_tc n_sc c c_gA c_bA c_hA c_gc c_bc c_hc ∧ H ≤ g ∧ g < B
/-- What the three operations leave: 6 the bag, 7 the questions, 8 the box. -/
def MkF (a : Pl.Nt) (a_tA a_sA : Option Addr) (a_tc a_sc : Nat) (z : Pl.Cch) (z_gA z_bA z_hA : Option Addr) (z_gc z_bc z_hc : Nat) (p1 p2 p3 : Int) (H : Nat) (j : Nat) (v : Value) (W : World) : Prop :=
  (j = 6 → ∃ g, v = .pointer (some ⟨g, 0, none⟩) ∧ H ≤ g ∧ BagAt W g) ∧ (j = 7 → MadeAt a a_tA a_sA a_tc a_sc z z_gA z_bA z_hA z_gc z_bc z_hc p1 p2 p3 H v W) ∧ (j = 8 → ∃ X, v = .pointer (some ⟨X, 0, none⟩) ∧ H ≤ X ∧ W.heap[X]? = some Z33o)
def MkSt (e : Nat) (W W' : World) : Prop := if e = 7 then (∀ (b : Nat) (cs : Array Value) (t : TypeId), W.heap[b]? = some (.cells cs t (0, 0)) → t ≠ 60 → W'.heap[b]? = some (.cells cs t (0, 0))) else Below W.heap.size W W'
section
variable {H : Nat} {v : Value} {W W' : World} {j : Nat} {p1 p2 p3 : Int} {a : Pl.Nt} {a_tA a_sA : Option Addr} {a_tc a_sc : Nat} {z : Pl.Cch} {z_gA z_bA z_hA : Option Addr} {z_gc z_bc z_hc : Nat}
theorem MadeAt.step (h : MadeAt a a_tA a_sA a_tc a_sc z z_gA z_bA z_hA z_gc z_bc z_hc p1 p2 p3 H v W) (hb : Below W.heap.size W W') : MadeAt a a_tA a_sA a_tc a_sc z z_gA z_bA z_hA z_gc z_bc z_hc p1 p2 p3 H v W' := by
  obtain ⟨g, B, base, P, Q, n, n_tA, n_sA, n_tc, n_sc, c, c_gA, c_bA, c_hA, c_gc, c_bc, c_hc, fr, ga, ds, h0, ⟨h1, h2, h3, h4, h5⟩, hD, hg⟩ := h
  exact ⟨g, B, base, P, Q, n, n_tA, n_sA, n_tc, n_sc, c, c_gA, c_bA, c_hA, c_gc, c_bc, c_hc, fr, ga, ds, h0, ⟨blk_below h1 hb (lt_of_block h1), blk_below h2 hb (lt_of_block h2), blk_below h3 hb (lt_of_block h3), blk_below h4 hb (lt_of_block h4), blk_below h5 hb (lt_of_block h5)⟩, hD.kb (kb_of_below hD.bag hb), hg⟩
theorem MkF.step (hb : Below W.heap.size W W') (h : MkF a a_tA a_sA a_tc a_sc z z_gA z_bA z_hA z_gc z_bc z_hc p1 p2 p3 H j v W) : MkF a a_tA a_sA a_tc a_sc z z_gA z_bA z_hA z_gc z_bc z_hc p1 p2 p3 H j v W' :=
  ⟨fun e => by obtain ⟨g, h0, h1, h2⟩ := h.1 e; exact ⟨g, h0, h1, h2.below hb h2.lt⟩, fun e => (h.2.1 e).step hb, fun e => by obtain ⟨X, h0, h1, h2⟩ := h.2.2 e; exact ⟨X, h0, h1, blk_below h2 hb (lt_of_block h2)⟩⟩
theorem MkF.m6 (h : ∃ g, v = .pointer (some ⟨g, 0, none⟩) ∧ H ≤ g ∧ BagAt W g) : MkF a a_tA a_sA a_tc a_sc z z_gA z_bA z_hA z_gc z_bc z_hc p1 p2 p3 H 6 v W := ⟨fun _ => h, fun e => absurd e (by decide), fun e => absurd e (by decide)⟩
theorem MkF.m7 (h : MadeAt a a_tA a_sA a_tc a_sc z z_gA z_bA z_hA z_gc z_bc z_hc p1 p2 p3 H v W) : MkF a a_tA a_sA a_tc a_sc z z_gA z_bA z_hA z_gc z_bc z_hc p1 p2 p3 H 7 v W := ⟨fun e => absurd e (by decide), fun _ => h, fun e => absurd e (by decide)⟩
theorem MkF.m8 (h : ∃ X, v = .pointer (some ⟨X, 0, none⟩) ∧ H ≤ X ∧ W.heap[X]? = some Z33o) : MkF a a_tA a_sA a_tc a_sc z z_gA z_bA z_hA z_gc z_bc z_hc p1 p2 p3 H 8 v W := ⟨fun e => absurd e (by decide), fun e => absurd e (by decide), fun _ => h⟩
/-- The bag's turning alone. -/
theorem mkSt_kb {g : Nat} (h : Kb g W W') (hb : BagAt W g) : MkSt 7 W W' := by
  unfold MkSt
  rw [if_pos rfl]
  intro b cs t h1 ht
  refine (h.block (lt_of_block h1) (fun e => ?_)).trans h1
  subst e
  obtain ⟨s, hs⟩ := hb
  rw [h1] at hs
  injection hs with hs
  injection hs with _ hs _
  exact ht hs
theorem five_set33 {X : Nat} {u0 u1 u2 u3 u4 : Value} (h : W.heap[X]? = some Z33o) :
    (((((W.setCell ⟨X, 0, none⟩ u0).setCell ⟨X, 1, none⟩ u1).setCell ⟨X, 2, none⟩ u2).setCell ⟨X, 3, none⟩ u3).setCell ⟨X, 4, none⟩ u4).heap[X]? = some (.cells #[u0, u1, u2, u3, u4] 33 (0, 0)) ∧ Oth W (((((W.setCell ⟨X, 0, none⟩ u0).setCell ⟨X, 1, none⟩ u1).setCell ⟨X, 2, none⟩ u2).setCell ⟨X, 3, none⟩ u3).setCell ⟨X, 4, none⟩ u4) := by
  have h0 := blk_set (w := W) h (i := 0) u0
  have h1 := blk_set h0 (i := 1) u1
  have h2 := blk_set h1 (i := 2) u2
  have h3 := blk_set h2 (i := 3) u3
  have h4 := blk_set h3 (i := 4) u4
  exact ⟨by simpa [Z33o] using h4, ((((Oth.set h).trans (Oth.set h0)).trans (Oth.set h1)).trans (Oth.set h2)).trans (Oth.set h3)⟩
/-- The questions as the loop holds them, once the box is filled. -/
theorem asking_of {w0 : World} {g B base P Q X : Nat} {n : Pl.Nt} {n_tA n_sA : Option Addr} {n_tc n_sc : Nat} {c : Pl.Cch} {c_gA c_bA c_hA : Option Addr} {c_gc c_bc c_hc : Nat} {fr ga ds : Int} (hX : W.heap[X]? = some Z33o) (hB : (W.heap[B]? = some (.cells #[.int .i64 a.stops, .slice a_tA a.tracks.length a_tc, .slice a_sA a.shops.length a_sc, .int .i64 n.stops, .slice n_tA n.tracks.length n_tc, .slice n_sA n.shops.length n_sc, .int .i64 n.stops, .slice n_tA n.tracks.length n_tc, .slice n_sA n.shops.length n_sc, .int .i64 a.stops, .slice a_tA a.tracks.length a_tc, .slice a_sA a.shops.length a_sc, .int .i64 n.stops, .slice n_tA n.tracks.length n_tc, .slice n_sA n.shops.length n_sc] 25 (0, 0)) ∧ W.heap[B + 1]? = some (.cells #[.slice z_gA z.gauges.length z_gc, .int .i64 z.size, .int .i64 z.load, .slice z_bA z.brakes.length z_bc, .slice z_hA z.heats.length z_hc, .bool z.hooks, .slice c_gA c.gauges.length c_gc, .int .i64 c.size, .int .i64 c.load, .slice c_bA c.brakes.length c_bc, .slice c_hA c.heats.length c_hc, .bool c.hooks, .slice z_gA z.gauges.length z_gc, .int .i64 z.size, .int .i64 z.load, .slice z_bA z.brakes.length z_bc, .slice z_hA z.heats.length z_hc, .bool z.hooks, .slice c_gA c.gauges.length c_gc, .int .i64 c.size, .int .i64 c.load, .slice c_bA c.brakes.length c_bc, .slice c_hA c.heats.length c_hc, .bool c.hooks, .slice c_gA c.gauges.length c_gc, .int .i64 c.size, .int .i64 c.load, .slice c_bA c.brakes.length c_bc, .slice c_hA c.heats.length c_hc, .bool c.hooks] 27 (0, 0)) ∧ W.heap[B + 1 + 1]? = some (.cells #[.int .i64 p1, .int .i64 fr, .int .i64 fr, .int .i64 p1, .int .i64 p1] 3 (0, 0)) ∧ W.heap[B + 1 + 1 + 1]? = some (.cells #[.int .i64 p2, .int .i64 ga, .int .i64 p2, .int .i64 ga, .int .i64 p2] 3 (0, 0)) ∧ W.heap[B + 1 + 1 + 1 + 1]? = some (.cells #[.int .i64 p3, .int .i64 ds, .int .i64 ds, .int .i64 p3, .int .i64 p3] 3 (0, 0)))) (hD : Dealt g base P Q W n n_tA n_sA n_tc n_sc c c_gA c_bA c_hA c_gc c_bc c_hc) (hg : H ≤ g) (hgB : g < B) (hX2 : H ≤ X) (hb : Below H w0 W)
    (ha : NReads w0 H a a_tA a_sA a_tc a_sc) (hz : CReads w0 H z z_gA z_bA z_hA z_gc z_bc z_hc) (few : Some20 a z) : Asking g B X base P Q H (((((W.setCell ⟨X, 0, none⟩ (.slice (some ⟨B, 0, none⟩) 5 5)).setCell ⟨X, 1, none⟩ (.slice (some ⟨B + 1, 0, none⟩) 5 5)).setCell ⟨X, 2, none⟩ (.slice (some ⟨B + 1 + 1, 0, none⟩) 5 5)).setCell ⟨X, 3, none⟩ (.slice (some ⟨B + 1 + 1 + 1, 0, none⟩) 5 5)).setCell ⟨X, 4, none⟩ (.slice (some ⟨B + 1 + 1 + 1 + 1, 0, none⟩) 5 5)) a a_tA a_sA a_tc a_sc z z_gA z_bA z_hA z_gc z_bc z_hc n n_tA n_sA n_tc n_sc c c_gA c_bA c_hA c_gc c_bc c_hc p1 p2 p3 fr ga ds := by
  obtain ⟨h5, ho⟩ := five_set33 (u0 := .slice (some ⟨B, 0, none⟩) 5 5) (u1 := .slice (some ⟨B + 1, 0, none⟩) 5 5) (u2 := .slice (some ⟨B + 1 + 1, 0, none⟩) 5 5) (u3 := .slice (some ⟨B + 1 + 1 + 1, 0, none⟩) 5 5) (u4 := .slice (some ⟨B + 1 + 1 + 1 + 1, 0, none⟩) 5 5) hX
  obtain ⟨b1, b2, b3, b4, b5⟩ := hB
  have hb2 : Below H w0 (((((W.setCell ⟨X, 0, none⟩ (.slice (some ⟨B, 0, none⟩) 5 5)).setCell ⟨X, 1, none⟩ (.slice (some ⟨B + 1, 0, none⟩) 5 5)).setCell ⟨X, 2, none⟩ (.slice (some ⟨B + 1 + 1, 0, none⟩) 5 5)).setCell ⟨X, 3, none⟩ (.slice (some ⟨B + 1 + 1 + 1, 0, none⟩) 5 5)).setCell ⟨X, 4, none⟩ (.slice (some ⟨B + 1 + 1 + 1 + 1, 0, none⟩) 5 5)) := ((((hb.setCell (p := ⟨X, 0, none⟩) hX2 _).setCell (p := ⟨X, 1, none⟩) hX2 _).setCell (p := ⟨X, 2, none⟩) hX2 _).setCell (p := ⟨X, 3, none⟩) hX2 _).setCell (p := ⟨X, 4, none⟩) hX2 _
  refine ⟨h5, ho _ _ _ b1 (by decide), ho _ _ _ b2 (by decide), ho _ _ _ b3 (by decide), ho _ _ _ b4 (by decide), ho _ _ _ b5 (by decide), hD.oth ho, ha.below hb2, hz.below hb2, few, fun e => ?_, hgB, hg⟩
  subst e
  obtain ⟨s, hs⟩ := hD.bag
  rw [hX] at hs
  injection hs with hs
  injection hs with _ hs _
  exact absurd hs (by decide)
end
end Go.Proofs.YtpbjpochjagicaaGreat
