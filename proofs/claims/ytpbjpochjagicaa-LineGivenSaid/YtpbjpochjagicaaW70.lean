/- Walks: a car that is given things, one behind the other: Given of the reference. -/
import Derived.Test.YtpbjpochjagicaaW68
import Derived.Test.YtpbjpochjagicaaGv
import Derived.Test.YtpbjpochjagicaaW28
namespace Go.Proofs.Ytpbjpochjagicaa
open Go.RowKit

def GvS (Q b : Nat) : Prop := b = Q ∨ b = Q + 1
/-- The car in its box, some things given; the result's box. -/
structure GivSt (Q : Nat) (w wr : World) (d : Pl.Cch) (d_gA d_bA d_hA : Option Addr) (d_gc d_bc d_hc : Nat) : Prop where
  box : wr.heap[Q]? = some (.cells #[.slice d_gA d.gauges.length d_gc, .int .i64 d.size, .int .i64 d.load, .slice d_bA d.brakes.length d_bc, .slice d_hA d.heats.length d_hc, .bool d.hooks] 30 (0, 0))
  res : wr.heap[Q + 1]? = some (.cells #[.slice none 0 0, .int .i64 0, .int .i64 0, .slice none 0 0, .slice none 0 0, .bool false] 30 (0, 0))
  g : IntsN wr (GvS Q) d_gA d.gauges
  b : IntsN wr (GvS Q) d_bA d.brakes
  h : IntsN wr (GvS Q) d_hA d.heats
  bel : Below Q w wr
section
variable {Q : Nat} {w wr w' : World} {d : Pl.Cch} {d_gA d_bA d_hA : Option Addr} {d_gc d_bc d_hc : Nat}
theorem GivSt.size (s : GivSt Q w wr d d_gA d_bA d_hA d_gc d_bc d_hc) : Q + 2 ≤ wr.heap.size := lt_of_block s.res
theorem GivSt.below (s : GivSt Q w wr d d_gA d_bA d_hA d_gc d_bc d_hc) (hb : Below wr.heap.size wr w') : GivSt Q w w' d d_gA d_bA d_hA d_gc d_bc d_hc := by
  have hs := s.size
  have hk : ∀ b, b < wr.heap.size → ¬ GvS Q b → ¬ GvS Q b ∧ w'.heap[b]? = wr.heap[b]? := fun b h1 h2 => ⟨h2, hb.block b h1⟩
  exact ⟨blk_below s.box hb (by omega), blk_below s.res hb (by omega), s.g.keep hk, s.b.keep hk, s.h.keep hk, s.bel.trans (hb.mono (by omega))⟩
theorem GivSt.keepSet (_s : GivSt Q w wr d d_gA d_bA d_hA d_gc d_bc d_hc) (i : Nat) (v : Value) : ∀ b, b < wr.heap.size → ¬ GvS Q b → ¬ GvS Q b ∧ (wr.setCell ⟨Q, i, none⟩ v).heap[b]? = wr.heap[b]? :=
  fun _b _ h2 => ⟨h2, Below.heap_setCell _ _ _ _ (fun e => h2 (.inl e))⟩
theorem GivSt.resSet (s : GivSt Q w wr d d_gA d_bA d_hA d_gc d_bc d_hc) (i : Nat) (v : Value) : (wr.setCell ⟨Q, i, none⟩ v).heap[Q + 1]? = some (.cells #[.slice none 0 0, .int .i64 0, .int .i64 0, .slice none 0 0, .slice none 0 0, .bool false] 30 (0, 0)) :=
  (Below.heap_setCell _ _ _ _ (by simp)).trans s.res
theorem GivSt.hooks (s : GivSt Q w wr d d_gA d_bA d_hA d_gc d_bc d_hc) : GivSt Q w (wr.setCell ⟨Q, 5, none⟩ (.bool true)) { d with hooks := true } d_gA d_bA d_hA d_gc d_bc d_hc :=
  ⟨by have := blk_set (i := 5) s.box (.bool true); simpa using this, s.resSet _ _, s.g.keep (s.keepSet _ _), s.b.keep (s.keepSet _ _), s.h.keep (s.keepSet _ _), s.bel.setCell (Nat.le_refl _) _⟩
theorem GivSt.heats (s : GivSt Q w wr d d_gA d_bA d_hA d_gc d_bc d_hc) {A : Option Addr} {k : Nat} {l : List Int} (hl : IntsN wr (GvS Q) A l) : GivSt Q w (wr.setCell ⟨Q, 4, none⟩ (.slice A l.length k)) { d with heats := l } d_gA d_bA A d_gc d_bc k :=
  ⟨by have := blk_set (i := 4) s.box (.slice A l.length k); simpa using this, s.resSet _ _, s.g.keep (s.keepSet _ _), s.b.keep (s.keepSet _ _), hl.keep (s.keepSet _ _), s.bel.setCell (Nat.le_refl _) _⟩
theorem GivSt.brakes (s : GivSt Q w wr d d_gA d_bA d_hA d_gc d_bc d_hc) {A : Option Addr} {k : Nat} {l : List Int} (hl : IntsN wr (GvS Q) A l) : GivSt Q w (wr.setCell ⟨Q, 3, none⟩ (.slice A l.length k)) { d with brakes := l } d_gA A d_hA d_gc k d_hc :=
  ⟨by have := blk_set (i := 3) s.box (.slice A l.length k); simpa using this, s.resSet _ _, s.g.keep (s.keepSet _ _), hl.keep (s.keepSet _ _), s.h.keep (s.keepSet _ _), s.bel.setCell (Nat.le_refl _) _⟩
theorem GivSt.gauges (s : GivSt Q w wr d d_gA d_bA d_hA d_gc d_bc d_hc) {A : Option Addr} {k : Nat} {l : List Int} (hl : IntsN wr (GvS Q) A l) : GivSt Q w (wr.setCell ⟨Q, 0, none⟩ (.slice A l.length k)) { d with gauges := l } A d_bA d_hA k d_bc d_hc :=
  ⟨by have := blk_set (i := 0) s.box (.slice A l.length k); simpa using this, s.resSet _ _, hl.keep (s.keepSet _ _), s.b.keep (s.keepSet _ _), s.h.keep (s.keepSet _ _), s.bel.setCell (Nat.le_refl _) _⟩
theorem GivSt.cells (s : GivSt Q w wr d d_gA d_bA d_hA d_gc d_bc d_hc) : (wr.cell? ⟨Q, 0, none⟩ = some (.slice d_gA d.gauges.length d_gc) ∧ wr.cell? ⟨Q, 1, none⟩ = some (.int .i64 d.size) ∧ wr.cell? ⟨Q, 2, none⟩ = some (.int .i64 d.load) ∧
    wr.cell? ⟨Q, 3, none⟩ = some (.slice d_bA d.brakes.length d_bc) ∧ wr.cell? ⟨Q, 4, none⟩ = some (.slice d_hA d.heats.length d_hc) ∧ wr.cell? ⟨Q, 5, none⟩ = some (.bool d.hooks)) :=
  ⟨blk_cell s.box 0, blk_cell s.box 1, blk_cell s.box 2, blk_cell s.box 3, blk_cell s.box 4, blk_cell s.box 5⟩
theorem GivSt.frozen (s : GivSt Q w wr d d_gA d_bA d_hA d_gc d_bc d_hc) (i : Nat) : wr.frozen? ⟨Q, i, none⟩ = false := blk_frozen s.box i
theorem GivSt.zeros (s : GivSt Q w wr d d_gA d_bA d_hA d_gc d_bc d_hc) : (wr.cell? ⟨Q + 1, 0, none⟩ = some (.slice none 0 0) ∧ wr.cell? ⟨Q + 1, 1, none⟩ = some (.int .i64 0) ∧ wr.cell? ⟨Q + 1, 2, none⟩ = some (.int .i64 0) ∧
    wr.cell? ⟨Q + 1, 3, none⟩ = some (.slice none 0 0) ∧ wr.cell? ⟨Q + 1, 4, none⟩ = some (.slice none 0 0) ∧ wr.cell? ⟨Q + 1, 5, none⟩ = some (.bool false)) ∧
    (wr.frozen? ⟨Q + 1, 0, none⟩ = false ∧ wr.frozen? ⟨Q + 1, 1, none⟩ = false ∧ wr.frozen? ⟨Q + 1, 2, none⟩ = false ∧ wr.frozen? ⟨Q + 1, 3, none⟩ = false ∧ wr.frozen? ⟨Q + 1, 4, none⟩ = false ∧ wr.frozen? ⟨Q + 1, 5, none⟩ = false) :=
  ⟨⟨blk_cell s.res 0, blk_cell s.res 1, blk_cell s.res 2, blk_cell s.res 3, blk_cell s.res 4, blk_cell s.res 5⟩, blk_frozen s.res 0, blk_frozen s.res 1, blk_frozen s.res 2, blk_frozen s.res 3, blk_frozen s.res 4, blk_frozen s.res 5⟩
theorem GivSt.fin (s : GivSt Q w wr d d_gA d_bA d_hA d_gc d_bc d_hc) (v0 v1 v2 v3 v4 v5 : Value) : Ints ((((((wr.setCell ⟨Q + 1, 0, none⟩ v0).setCell ⟨Q + 1, 1, none⟩ v1).setCell ⟨Q + 1, 2, none⟩ v2).setCell ⟨Q + 1, 3, none⟩ v3).setCell ⟨Q + 1, 4, none⟩ v4).setCell ⟨Q + 1, 5, none⟩ v5) wr.heap.size d_gA d.gauges ∧
    Ints ((((((wr.setCell ⟨Q + 1, 0, none⟩ v0).setCell ⟨Q + 1, 1, none⟩ v1).setCell ⟨Q + 1, 2, none⟩ v2).setCell ⟨Q + 1, 3, none⟩ v3).setCell ⟨Q + 1, 4, none⟩ v4).setCell ⟨Q + 1, 5, none⟩ v5) wr.heap.size d_bA d.brakes ∧
    Ints ((((((wr.setCell ⟨Q + 1, 0, none⟩ v0).setCell ⟨Q + 1, 1, none⟩ v1).setCell ⟨Q + 1, 2, none⟩ v2).setCell ⟨Q + 1, 3, none⟩ v3).setCell ⟨Q + 1, 4, none⟩ v4).setCell ⟨Q + 1, 5, none⟩ v5) wr.heap.size d_hA d.heats ∧
    Below Q w ((((((wr.setCell ⟨Q + 1, 0, none⟩ v0).setCell ⟨Q + 1, 1, none⟩ v1).setCell ⟨Q + 1, 2, none⟩ v2).setCell ⟨Q + 1, 3, none⟩ v3).setCell ⟨Q + 1, 4, none⟩ v4).setCell ⟨Q + 1, 5, none⟩ v5) := by
  have hk : ∀ b, b < wr.heap.size → ¬ GvS Q b → ¬ GvS Q b ∧ ((((((wr.setCell ⟨Q + 1, 0, none⟩ v0).setCell ⟨Q + 1, 1, none⟩ v1).setCell ⟨Q + 1, 2, none⟩ v2).setCell ⟨Q + 1, 3, none⟩ v3).setCell ⟨Q + 1, 4, none⟩ v4).setCell ⟨Q + 1, 5, none⟩ v5).heap[b]? = wr.heap[b]? := by
    intro b _ h2
    refine ⟨h2, ?_⟩
    have hn : b ≠ Q + 1 := fun e => h2 (.inr e)
    rw [Below.heap_setCell _ _ _ _ hn, Below.heap_setCell _ _ _ _ hn, Below.heap_setCell _ _ _ _ hn, Below.heap_setCell _ _ _ _ hn, Below.heap_setCell _ _ _ _ hn, Below.heap_setCell _ _ _ _ hn]
  have f : ∀ {A : Option Addr} {l : List Int}, IntsN wr (GvS Q) A l → Ints ((((((wr.setCell ⟨Q + 1, 0, none⟩ v0).setCell ⟨Q + 1, 1, none⟩ v1).setCell ⟨Q + 1, 2, none⟩ v2).setCell ⟨Q + 1, 3, none⟩ v3).setCell ⟨Q + 1, 4, none⟩ v4).setCell ⟨Q + 1, 5, none⟩ v5) wr.heap.size A l := fun h => by
    have := (h.keep hk).ints
    simpa using this
  exact ⟨f s.g, f s.b, f s.h, (((((s.bel.setCell (Nat.le_succ _) _).setCell (Nat.le_succ _) _).setCell (Nat.le_succ _) _).setCell (Nat.le_succ _) _).setCell (Nat.le_succ _) _).setCell (Nat.le_succ _) _⟩
end
theorem putL_length (xs : List Int) (n : Int) : (putL xs n).length ≤ xs.length + 1 := by
  unfold putL
  induction xs with
  | nil => simp
  | cons x l ih =>
    simp only [List.filter_cons, List.length_append, List.length_cons, List.length_nil] at ih ⊢
    by_cases h1 : x < n
    · have h2 : ¬ n < x := by omega
      simp [h1, h2]; omega
    · by_cases h2 : n < x
      · simp [h1, h2]; omega
      · simp [h1, h2]; omega
theorem givenP_take {c : Pl.Cch} {ts : List Int} {k : Nat} (h : k < ts.length) : givenP c (ts.take (k + 1)) = giveP (givenP c (ts.take k)) ts[k] := by
  unfold givenP
  rw [List.take_add_one, List.getElem?_eq_getElem h, List.foldl_append]
  rfl
def GivPost (d : Pl.Cch) (w : World) (e : Ending) (w' : World) : Prop := ∃ (d_gA d_bA d_hA : Option Addr) (d_gc d_bc d_hc : Nat), e = .returned (.agg #[.slice d_gA d.gauges.length d_gc, .int .i64 d.size, .int .i64 d.load, .slice d_bA d.brakes.length d_bc, .slice d_hA d.heats.length d_hc, .bool d.hooks]) ∧ CReads w' w'.heap.size d d_gA d_bA d_hA d_gc d_bc d_hc ∧ Below w.heap.size w w'
def Few (d : Pl.Cch) (k : Nat) : Prop := d.gauges.length ≤ 100 + k ∧ d.brakes.length ≤ 100 + k ∧ d.heats.length ≤ 100 + k

set_option maxRecDepth 20000 in
set_option maxHeartbeats 4000000 in
theorem givenP_any (c : Pl.Cch) (c_gA c_bA c_hA : Option Addr) (c_gc c_bc c_hc : Nat) (A : Option Addr) (cp : Nat) (ts : List Int) (w : World) (hr : CReads w w.heap.size c c_gA c_bA c_hA c_gc c_bc c_hc) (hx : Ints w w.heap.size A ts) (hl : ts.length ≤ 50) (hF : Few c 0) (h30 : ∀ x ∈ ts, 0 ≤ x ∧ x ≤ 30) :
    Calls Try.prog 46 #[.agg #[.slice c_gA c.gauges.length c_gc, .int .i64 c.size, .int .i64 c.load, .slice c_bA c.brakes.length c_bc, .slice c_hA c.heats.length c_hc, .bool c.hooks], .slice A ts.length cp] w (GivPost (givenP c ts) w) := by
  have HX := Lib.hid hx
  have hs0 : GivSt w.heap.size w ((w.alloc (.cells #[.slice c_gA c.gauges.length c_gc, .int .i64 c.size, .int .i64 c.load, .slice c_bA c.brakes.length c_bc, .slice c_hA c.heats.length c_hc, .bool c.hooks] 30)).alloc (.cells #[.slice none 0 0, .int .i64 0, .int .i64 0, .slice none 0 0, .slice none 0 0, .bool false] 30)) c c_gA c_bA c_hA c_gc c_bc c_hc := by
    have hb : Below w.heap.size w ((w.alloc (.cells #[.slice c_gA c.gauges.length c_gc, .int .i64 c.size, .int .i64 c.load, .slice c_bA c.brakes.length c_bc, .slice c_hA c.heats.length c_hc, .bool c.hooks] 30)).alloc (.cells #[.slice none 0 0, .int .i64 0, .int .i64 0, .slice none 0 0, .slice none 0 0, .bool false] 30)) := ((Below.refl _ _).alloc (Nat.le_refl _) _).alloc (by simp) _
    have f : ∀ {A : Option Addr} {l : List Int}, Ints w w.heap.size A l → IntsN ((w.alloc (.cells #[.slice c_gA c.gauges.length c_gc, .int .i64 c.size, .int .i64 c.load, .slice c_bA c.brakes.length c_bc, .slice c_hA c.heats.length c_hc, .bool c.hooks] 30)).alloc (.cells #[.slice none 0 0, .int .i64 0, .int .i64 0, .slice none 0 0, .slice none 0 0, .bool false] 30)) (GvS w.heap.size) A l := fun h k x hx => by
      obtain ⟨b, off, h1, h2, h3⟩ := h k x hx
      exact ⟨b, off, h1, by simp; omega, fun e => by rcases e with e | e <;> omega, (hb.cell (p := ⟨b, off + k, none⟩) h2).trans h3⟩
    refine ⟨blk_alloc (heap_alloc_new w _) _, ?_, f hr.gauges, f hr.brakes, f hr.heats, hb⟩
    have := heap_alloc_new (w.alloc (.cells #[.slice c_gA c.gauges.length c_gc, .int .i64 c.size, .int .i64 c.load, .slice c_bA c.brakes.length c_bc, .slice c_hA c.heats.length c_hc, .bool c.hooks] 30)) (.cells #[.slice none 0 0, .int .i64 0, .int .i64 0, .slice none 0 0, .slice none 0 0, .bool false] 30)
    simpa using this
  have HS0 := Lib.hid hs0
  have HF0 := Lib.hid hF
  have H30 := Lib.hid h30
  clear hs0 hx hr hF h30
  generalize hR : givenP c ts = R
  have HR := Lib.hid hR
  clear hR
  go_enter Try.func46, Try.ntmps46
  go_wp2_with fail
  generalize (w.alloc (.cells #[.slice c_gA c.gauges.length c_gc, .int .i64 c.size, .int .i64 c.load, .slice c_bA c.brakes.length c_bc, .slice c_hA c.heats.length c_hc, .bool c.hooks] 30)).alloc (.cells #[.slice none 0 0, .int .i64 0, .int .i64 0, .slice none 0 0, .slice none 0 0, .bool false] 30) = w0 at HS0 ⊢
  go_loopw [5] (fun iv wr => ∃ (k : Nat) (d : Pl.Cch) (d_gA d_bA d_hA : Option Addr) (d_gc d_bc d_hc : Nat), k ≤ ts.length ∧ iv = .int .i64 k ∧ Hid (d = givenP c (ts.take k)) ∧ Hid (GivSt w.heap.size w wr d d_gA d_bA d_hA d_gc d_bc d_hc) ∧ Few d k) (fun i _ => ts.length - (intOf i).toNat)
  case atStart => exact ⟨0, c, _, _, _, _, _, _, by omega, rfl, rfl, HS0.out, HF0.out⟩
  case round =>
    obtain ⟨k, d, d_gA, d_bA, d_hA, d_gc, d_bc, d_hc, hk, rfl, hD, hS, hF⟩ := hrel
    clear HS0 HF0
    obtain ⟨x0, x1, x2, x3, x4, x5⟩ := hS.out.cells
    have hsz := hS.out.size
    by_cases hkl : k < ts.length
    · obtain ⟨b, off, rfl, hb, hc⟩ := HX.out k ts[k] (List.getElem?_eq_getElem hkl)
      have hcr := (hS.out.bel.cell (p := ⟨b, off + k, none⟩) hb).trans hc
      have hki : (k : Int) < (ts.length : Int) := by omega
      have HDN : Hid (giveP d ts[k] = givenP c (ts.take (k + 1))) := by show _ = _; rw [givenP_take hkl, ← hD.out]
      obtain ⟨ht0, ht1⟩ := H30.out ts[k] (List.getElem_mem hkl)
      generalize ts[k] = t at hc hcr HDN ht0 ht1
      obtain ⟨fg, fb, fh⟩ := hF
      by_cases h30 : t = 30
      · subst h30
        have f5 := hS.out.frozen 5
        have HD2 : Hid (({ d with hooks := true } : Pl.Cch) = givenP c (ts.take (k + 1))) := by show _ = _; rw [← HDN.out]; rfl
        have HS2 := Lib.hid hS.out.hooks
        clear HDN hD
        go_wp2_with fail
        go_roundw
        case rel => exact ⟨k + 1, _, _, _, _, _, _, _, by omega, by go_num, HD2, HS2, ⟨by show d.gauges.length ≤ _; omega, by show d.brakes.length ≤ _; omega, by show d.heats.length ≤ _; omega⟩⟩
        case measure => simp [intOf]; omega
      · have hq : (t == 30) = false := by rw [beq_eq_false_iff_ne]; exact h30
        by_cases h20 : 20 < t
        · have HD2 : Hid (({ d with heats := putL d.heats (t - 20) } : Pl.Cch) = givenP c (ts.take (k + 1))) := by show _ = _; rw [← HDN.out, giveP, if_neg h30, if_pos h20]
          clear HDN hD
          go_wp2_with fail
          refine (put_any d_hA d_hc d.heats (t - 20) wr hS.out.h.ints (by omega)).mono ?_
          rintro e w1 ⟨A1, c1, rfl, ho1, hb1⟩
          have S1 := hS.out.below hb1
          have HS2 := Lib.hid (S1.heats (k := c1) (IntsN.of_own ho1 (fun k hk => fun e => by rcases e with e | e <;> omega)))
          obtain ⟨_, _, _, _, y4, _⟩ := S1.cells
          have f4 := S1.frozen 4
          have hpl := putL_length d.heats (t - 20)
          clear x0 x1 x2 x3 x4 x5 S1 ho1 hb1
          go_wp2_with fail
          go_roundw
          case rel => exact ⟨k + 1, _, _, _, _, _, _, _, by omega, by go_num, HD2, HS2, ⟨by show d.gauges.length ≤ _; omega, by show d.brakes.length ≤ _; omega, by show (putL d.heats (t - 20)).length ≤ _; omega⟩⟩
          case measure => simp [intOf]; omega
        · by_cases h10 : 10 < t
          · have HD2 : Hid (({ d with brakes := putL d.brakes (t - 10) } : Pl.Cch) = givenP c (ts.take (k + 1))) := by show _ = _; rw [← HDN.out, giveP, if_neg h30, if_neg h20, if_pos h10]
            clear HDN hD
            go_wp2_with fail
            refine (put_any d_bA d_bc d.brakes (t - 10) wr hS.out.b.ints (by omega)).mono ?_
            rintro e w1 ⟨A1, c1, rfl, ho1, hb1⟩
            have S1 := hS.out.below hb1
            have HS2 := Lib.hid (S1.brakes (k := c1) (IntsN.of_own ho1 (fun k hk => fun e => by rcases e with e | e <;> omega)))
            obtain ⟨_, _, _, y3, _, _⟩ := S1.cells
            have f4 := S1.frozen 3
            have hpl := putL_length d.brakes (t - 10)
            clear x0 x1 x2 x3 x4 x5 S1 ho1 hb1
            go_wp2_with fail
            go_roundw
            case rel => exact ⟨k + 1, _, _, _, _, _, _, _, by omega, by go_num, HD2, HS2, ⟨by show d.gauges.length ≤ _; omega, by show (putL d.brakes (t - 10)).length ≤ _; omega, by show d.heats.length ≤ _; omega⟩⟩
            case measure => simp [intOf]; omega
          · have HD2 : Hid (({ d with gauges := putL d.gauges (t) } : Pl.Cch) = givenP c (ts.take (k + 1))) := by show _ = _; rw [← HDN.out, giveP, if_neg h30, if_neg h20, if_neg h10]
            clear HDN hD
            go_wp2_with fail
            refine (put_any d_gA d_gc d.gauges (t) wr hS.out.g.ints (by omega)).mono ?_
            rintro e w1 ⟨A1, c1, rfl, ho1, hb1⟩
            have S1 := hS.out.below hb1
            have HS2 := Lib.hid (S1.gauges (k := c1) (IntsN.of_own ho1 (fun k hk => fun e => by rcases e with e | e <;> omega)))
            obtain ⟨y0, _, _, _, _, _⟩ := S1.cells
            have f4 := S1.frozen 0
            have hpl := putL_length d.gauges (t)
            clear x0 x1 x2 x3 x4 x5 S1 ho1 hb1
            go_wp2_with fail
            go_roundw
            case rel => exact ⟨k + 1, _, _, _, _, _, _, _, by omega, by go_num, HD2, HS2, ⟨by show (putL d.gauges (t)).length ≤ _; omega, by show d.brakes.length ≤ _; omega, by show d.heats.length ≤ _; omega⟩⟩
            case measure => simp [intOf]; omega
    · obtain rfl : k = ts.length := by omega
      have hDR : d = R := by rw [hD.out, List.take_length]; exact HR.out
      subst hDR
      have hni : ¬ (ts.length : Int) < (ts.length : Int) := by omega
      obtain ⟨⟨q0, q1, q2, q3, q4, q5⟩, r0, r1, r2, r3, r4, r5⟩ := hS.out.zeros
      obtain ⟨fg, fb, fh⟩ := hF
      clear hD HR hkl
      go_wp2_with fail
      refine bodyPost_ret (v := .agg #[.slice d_gA d.gauges.length d_gc, .int .i64 d.size, .int .i64 d.load, .slice d_bA d.brakes.length d_bc, .slice d_hA d.heats.length d_hc, .bool d.hooks]) (by simp [results, Try.results46, go_sem, q0, q1, q2, q3, q4, q5]) rfl ?_
      have hfin := hS.out.fin (.slice d_gA d.gauges.length d_gc) (.int .i64 d.size) (.int .i64 d.load) (.slice d_bA d.brakes.length d_bc) (.slice d_hA d.heats.length d_hc) (.bool d.hooks)
      exact ⟨d_gA, d_bA, d_hA, d_gc, d_bc, d_hc, rfl, ⟨by simpa using hfin.1, by simpa using hfin.2.1, by simpa using hfin.2.2.1, by omega, by omega, by omega⟩, hfin.2.2.2⟩
end Go.Proofs.Ytpbjpochjagicaa
