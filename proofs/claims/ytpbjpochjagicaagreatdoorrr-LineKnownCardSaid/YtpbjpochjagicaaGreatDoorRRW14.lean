/- Walks: a car that was given things. -/
import Derived.Test.YtpbjpochjagicaaGreatDoorRRSh
namespace Go.Proofs.YtpbjpochjagicaaGreatDoorRR
open Go.RowKit

/-- A car's lists ascend and are no longer than m. -/
structure Fine (c : Pl.Cch) (m : Nat) : Prop where
  aG : Asc c.gauges
  aB : Asc c.brakes
  aH : Asc c.heats
  lG : c.gauges.length ≤ m
  lB : c.brakes.length ≤ m
  lH : c.heats.length ≤ m

theorem give_fine {c : Pl.Cch} {m : Nat} (h : Fine c m) (t : Int) : Fine (Pl.give c t) (m + 1) := by
  unfold Pl.give
  split
  · exact ⟨h.aG, h.aB, h.aH, by have := h.lG; simp; omega, by have := h.lB; simp; omega, by have := h.lH; simp; omega⟩
  · split
    · exact ⟨h.aG, h.aB, asc_insert h.aH _, by have := h.lG; simp; omega, by have := h.lB; simp; omega, by have := h.lH; simp [insert_length]; omega⟩
    · split
      · exact ⟨h.aG, asc_insert h.aB _, h.aH, by have := h.lG; simp; omega, by have := h.lB; simp [insert_length]; omega, by have := h.lH; simp; omega⟩
      · exact ⟨asc_insert h.aG _, h.aB, h.aH, by have := h.lG; simp [insert_length]; omega, by have := h.lB; simp; omega, by have := h.lH; simp; omega⟩
theorem given_fine {l : List Int} : ∀ {c : Pl.Cch} {m : Nat}, Fine c m → Fine (Pl.given c l) (m + l.length) := by
  induction l with
  | nil => intro c m h; exact h
  | cons t l ih => intro c m h; have := ih (give_fine h t); rw [List.length_cons, show m + (l.length + 1) = m + 1 + l.length by omega]; exact this
theorem given_take {c : Pl.Cch} {l : List Int} {k : Nat} (hk : k < l.length) : Pl.given c (l.take (k + 1)) = Pl.give (Pl.given c (l.take k)) l[k] := by
  rw [Pl.given, List.take_add_one, List.foldl_append, List.getElem?_eq_getElem hk]; rfl

/-- Integers that read off the blocks X and X + 1. -/
def IntsOff (w : World) (X : Nat) (A : Option Addr) (xs : List Int) : Prop :=
  ∀ (k : Nat) (x : Int), xs[k]? = some x → ∃ b off, A = some ⟨b, off, none⟩ ∧ b < w.heap.size ∧ (b < X ∨ X + 1 < b) ∧ w.cell? ⟨b, off + k, none⟩ = some (.int .i64 x)
theorem IntsOff.ints {w : World} {X : Nat} {A : Option Addr} {xs : List Int} (h : IntsOff w X A xs) : Ints w w.heap.size A xs := fun k x hx => by
  obtain ⟨b, off, h1, h2, _, h4⟩ := h k x hx; exact ⟨b, off, h1, h2, h4⟩
theorem IntsOff.of_old {w : World} {X : Nat} {A : Option Addr} {xs : List Int} (h : Ints w X A xs) (hX : X ≤ w.heap.size) : IntsOff w X A xs := fun k x hx => by
  obtain ⟨b, off, h1, h2, h4⟩ := h k x hx; exact ⟨b, off, h1, by omega, .inl h2, h4⟩
theorem IntsOff.of_new {w : World} {X g : Nat} {xs : List Int} (h : Ints w w.heap.size (some ⟨g, 0, none⟩) xs) (hg : X + 1 < g) : IntsOff w X (some ⟨g, 0, none⟩) xs := fun k x hx => by
  obtain ⟨b, off, h1, h2, h4⟩ := h k x hx
  injection h1 with h1; injection h1 with h5 h6; subst h5 h6
  exact ⟨g, 0, rfl, h2, .inr hg, h4⟩
theorem IntsOff.below {w w' : World} {X : Nat} {A : Option Addr} {xs : List Int} (h : IntsOff w X A xs) (hb : Below w.heap.size w w') : IntsOff w' X A xs := fun k x hx => by
  obtain ⟨b, off, h1, h2, h3, h4⟩ := h k x hx
  exact ⟨b, off, h1, Nat.lt_of_lt_of_le h2 hb.size, h3, (hb.cell (p := ⟨b, off + k, none⟩) h2).trans h4⟩
theorem IntsOff.setCell {w : World} {X : Nat} {A : Option Addr} {xs : List Int} (h : IntsOff w X A xs) {Y i : Nat} (hY : Y = X ∨ Y = X + 1) (u : Value) : IntsOff (w.setCell ⟨Y, i, none⟩ u) X A xs := fun k x hx => by
  obtain ⟨b, off, h1, h2, h3, h4⟩ := h k x hx
  refine ⟨b, off, h1, by rw [size_setCell]; exact h2, h3, ?_⟩
  rw [World.cell?_setCell_other]
  · exact h4
  · intro e; injection e with e; omega

structure COff (w : World) (X : Nat) (c : Pl.Cch) (c_gA c_bA c_hA : Option Addr) (c_gc c_bc c_hc : Nat) : Prop where
  gauges : IntsOff w X c_gA c.gauges
  brakes : IntsOff w X c_bA c.brakes
  heats : IntsOff w X c_hA c.heats
theorem COff.below {w w' : World} {X : Nat} {c : Pl.Cch} {c_gA c_bA c_hA : Option Addr} {c_gc c_bc c_hc : Nat} (h : COff w X c c_gA c_bA c_hA c_gc c_bc c_hc) (hb : Below w.heap.size w w') : COff w' X c c_gA c_bA c_hA c_gc c_bc c_hc := ⟨h.gauges.below hb, h.brakes.below hb, h.heats.below hb⟩
theorem COff.setCell {w : World} {X : Nat} {c : Pl.Cch} {c_gA c_bA c_hA : Option Addr} {c_gc c_bc c_hc : Nat} (h : COff w X c c_gA c_bA c_hA c_gc c_bc c_hc) {Y i : Nat} (hY : Y = X ∨ Y = X + 1) (u : Value) : COff (w.setCell ⟨Y, i, none⟩ u) X c c_gA c_bA c_hA c_gc c_bc c_hc := ⟨h.gauges.setCell hY u, h.brakes.setCell hY u, h.heats.setCell hY u⟩
theorem COff.reads {w : World} {X : Nat} {c : Pl.Cch} {c_gA c_bA c_hA : Option Addr} {c_gc c_bc c_hc : Nat} (h : COff w X c c_gA c_bA c_hA c_gc c_bc c_hc) {m : Nat} (hf : Fine c m) (hm : m ≤ 1000) : CReads w w.heap.size c c_gA c_bA c_hA c_gc c_bc c_hc :=
  ⟨h.gauges.ints, h.brakes.ints, h.heats.ints, by have := hf.lG; omega, by have := hf.lB; omega, by have := hf.lH; omega⟩

def GivenPost (w : World) (d : Pl.Cch) (e : Ending) (w' : World) : Prop :=
  ∃ (d_gA d_bA d_hA : Option Addr) (d_gc d_bc d_hc : Nat), e = .returned (.agg #[.slice d_gA d.gauges.length d_gc, .int .i64 d.size, .int .i64 d.load, .slice d_bA d.brakes.length d_bc, .slice d_hA d.heats.length d_hc, .bool d.hooks]) ∧ CReads w' w'.heap.size d d_gA d_bA d_hA d_gc d_bc d_hc ∧ Below w.heap.size w w'

/-- What holds at the loop's head. -/
def GivenAt (w wr : World) (d : Pl.Cch) : Prop :=
  ∃ (d_gA d_bA d_hA : Option Addr) (d_gc d_bc d_hc : Nat), wr.heap[w.heap.size]? = some (.cells #[.slice d_gA d.gauges.length d_gc, .int .i64 d.size, .int .i64 d.load, .slice d_bA d.brakes.length d_bc, .slice d_hA d.heats.length d_hc, .bool d.hooks] 28 (0, 0)) ∧ (∃ cs, wr.heap[w.heap.size + 1]? = some (.cells cs 28 (0, 0)) ∧ cs.size = 6) ∧ COff wr w.heap.size d d_gA d_bA d_hA d_gc d_bc d_hc ∧ Below w.heap.size w wr

theorem six_cells {cs : Array Value} (h : cs.size = 6) : ∃ v0 v1 v2 v3 v4 v5, cs = #[v0, v1, v2, v3, v4, v5] := by
  obtain ⟨l⟩ := cs
  match l, h with
  | [v0, v1, v2, v3, v4, v5], _ => exact ⟨v0, v1, v2, v3, v4, v5, rfl⟩
theorem box_cells {w : World} {b : Nat} {t : TypeId} (c : Pl.Cch) (c_gA c_bA c_hA : Option Addr) (c_gc c_bc c_hc : Nat) (h : w.heap[b]? = some (.cells #[.slice c_gA c.gauges.length c_gc, .int .i64 c.size, .int .i64 c.load, .slice c_bA c.brakes.length c_bc, .slice c_hA c.heats.length c_hc, .bool c.hooks] t (0, 0))) :
    w.cell? ⟨b, 0, none⟩ = some (.slice c_gA c.gauges.length c_gc) ∧ w.cell? ⟨b, 1, none⟩ = some (.int .i64 c.size) ∧ w.cell? ⟨b, 2, none⟩ = some (.int .i64 c.load) ∧
    w.cell? ⟨b, 3, none⟩ = some (.slice c_bA c.brakes.length c_bc) ∧ w.cell? ⟨b, 4, none⟩ = some (.slice c_hA c.heats.length c_hc) ∧ w.cell? ⟨b, 5, none⟩ = some (.bool c.hooks) :=
  ⟨blk_cell h 0, blk_cell h 1, blk_cell h 2, blk_cell h 3, blk_cell h 4, blk_cell h 5⟩

set_option maxHeartbeats 8000000 in
theorem given_any (c : Pl.Cch) (c_gA c_bA c_hA : Option Addr) (c_gc c_bc c_hc : Nat) (A : Option Addr) (lc : Nat) (l : List Int) (m : Nat) (w : World) (hr : CReads w w.heap.size c c_gA c_bA c_hA c_gc c_bc c_hc) (hl : Ints w w.heap.size A l) (hf : Fine c m) (hm : m + l.length ≤ 1000) (hx : ∀ x ∈ l, x ≤ 9223372036854775807) :
    Calls Tryz.prog 41 #[.agg #[.slice c_gA c.gauges.length c_gc, .int .i64 c.size, .int .i64 c.load, .slice c_bA c.brakes.length c_bc, .slice c_hA c.heats.length c_hc, .bool c.hooks], .slice A l.length lc] w (GivenPost w (Pl.given c l)) := by
  have hStart : GivenAt w ((w.alloc (.cells #[.slice c_gA c.gauges.length c_gc, .int .i64 c.size, .int .i64 c.load, .slice c_bA c.brakes.length c_bc, .slice c_hA c.heats.length c_hc, .bool c.hooks] 28)).alloc (.cells #[.slice none 0 0, .int .i64 0, .int .i64 0, .slice none 0 0, .slice none 0 0, .bool false] 28)) (Pl.given c (l.take 0)) := by
    have hb : Below w.heap.size w ((w.alloc (.cells #[.slice c_gA c.gauges.length c_gc, .int .i64 c.size, .int .i64 c.load, .slice c_bA c.brakes.length c_bc, .slice c_hA c.heats.length c_hc, .bool c.hooks] 28)).alloc (.cells #[.slice none 0 0, .int .i64 0, .int .i64 0, .slice none 0 0, .slice none 0 0, .bool false] 28)) := ((Below.refl _ _).alloc (Nat.le_refl _) _).alloc (by simp) _
    have hs := hb.size
    refine ⟨c_gA, c_bA, c_hA, c_gc, c_bc, c_hc, blk_alloc (heap_alloc_new w _) _, ⟨_, by simpa using heap_alloc_new (w.alloc (.cells #[.slice c_gA c.gauges.length c_gc, .int .i64 c.size, .int .i64 c.load, .slice c_bA c.brakes.length c_bc, .slice c_hA c.heats.length c_hc, .bool c.hooks] 28)) _, rfl⟩, ⟨.of_old (hr.gauges.below hb) hs, .of_old (hr.brakes.below hb) hs, .of_old (hr.heats.below hb) hs⟩, hb⟩
  have HS := Lib.hid hStart; clear hStart hr
  have hlen : l.length ≤ 1000 := by omega
  rcases hl.form with rfl | ⟨b, off, rfl, hb, hc⟩
  · go_enter Tryz.func41, Tryz.ntmps41
    go_wp2_with fail
    go_loop [9] (fun i => i = .int .i64 0) (fun _ => 0)
    case atStart => rfl
    case round =>
      subst hrel
      generalize (w.alloc (.cells #[.slice c_gA c.gauges.length c_gc, .int .i64 c.size, .int .i64 c.load, .slice c_bA c.brakes.length c_bc, .slice c_hA c.heats.length c_hc, .bool c.hooks] 28)).alloc (.cells #[.slice none 0 0, .int .i64 0, .int .i64 0, .slice none 0 0, .slice none 0 0, .bool false] 28) = wr at HS ⊢
      have HA : Hid (GivenAt w wr (Pl.given c [])) := HS.out
      obtain ⟨d_gA, d_bA, d_hA, d_gc, d_bc, d_hc, hb0, ⟨cs, hb1, hcs⟩, hoff, hbel⟩ := HA.out
      have hfin := given_fine (l := []) hf
      clear HA
      generalize hD : Pl.given c [] = d at hb0 hoff hfin
      have HD := Lib.hid hD; clear hD
      obtain ⟨v0, v1, v2, v3, v4, v5, rfl⟩ := six_cells hcs
      have Hb0 := Lib.hid hb0; have Hb1 := Lib.hid hb1; have Hoff := Lib.hid hoff; have Hbel := Lib.hid hbel; have HF := Lib.hid hfin
      obtain ⟨x0, x1, x2, x3, x4, x5⟩ := box_cells d _ _ _ _ _ _ hb0
      have y0 : wr.cell? ⟨w.heap.size + 1, 0, none⟩ = some v0 := blk_cell hb1 0
      have y1 : wr.cell? ⟨w.heap.size + 1, 1, none⟩ = some v1 := blk_cell hb1 1
      have y2 : wr.cell? ⟨w.heap.size + 1, 2, none⟩ = some v2 := blk_cell hb1 2
      have y3 : wr.cell? ⟨w.heap.size + 1, 3, none⟩ = some v3 := blk_cell hb1 3
      have y4 : wr.cell? ⟨w.heap.size + 1, 4, none⟩ = some v4 := blk_cell hb1 4
      have y5 : wr.cell? ⟨w.heap.size + 1, 5, none⟩ = some v5 := blk_cell hb1 5
      have f0 : wr.frozen? ⟨w.heap.size + 1, 0, none⟩ = false := blk_frozen hb1 0
      have f1 : wr.frozen? ⟨w.heap.size + 1, 1, none⟩ = false := blk_frozen hb1 1
      have f2 : wr.frozen? ⟨w.heap.size + 1, 2, none⟩ = false := blk_frozen hb1 2
      have f3 : wr.frozen? ⟨w.heap.size + 1, 3, none⟩ = false := blk_frozen hb1 3
      have f4 : wr.frozen? ⟨w.heap.size + 1, 4, none⟩ = false := blk_frozen hb1 4
      have f5 : wr.frozen? ⟨w.heap.size + 1, 5, none⟩ = false := blk_frozen hb1 5
      have hs0 : w.heap.size < wr.heap.size := lt_of_block hb0
      have hs1 : w.heap.size + 1 < wr.heap.size := lt_of_block hb1
      clear hb0 hb1 hoff hbel hfin hcs hf
      go_wp2_with fail
      refine bodyPost_ret (v := .agg #[.slice d_gA d.gauges.length d_gc, .int .i64 d.size, .int .i64 d.load, .slice d_bA d.brakes.length d_bc, .slice d_hA d.heats.length d_hc, .bool d.hooks]) (by simp [results, Tryz.results41, go_sem, y0, y1, y2, y3, y4, y5]) rfl ?_
      rw [HD.out]
      refine ⟨d_gA, d_bA, d_hA, d_gc, d_bc, d_hc, rfl, ?_, ?_⟩
      · exact COff.reads ((((((Hoff.out.setCell (.inr rfl) _).setCell (.inr rfl) _).setCell (.inr rfl) _).setCell (.inr rfl) _).setCell (.inr rfl) _).setCell (.inr rfl) _) HF.out hm
      · (repeat (first | exact Hbel.out | refine Below.setCell ?_ (by simp) _))
  · go_enter Tryz.func41, Tryz.ntmps41
    go_wp2_with fail
    go_loopw [6, 9] (fun x i wr => ∃ k : Nat, k ≤ l.length ∧ i = .int .i64 k ∧ GivenAt w wr (Pl.given c (l.take k))) (fun _ i _ => l.length - (intOf i).toNat)
    case atStart => exact ⟨0, by omega, rfl, HS.out⟩
    case round =>
      obtain ⟨k, hk, rfl, hA⟩ := hrel
      clear HS
      by_cases hkl : k < l.length
      · have hN := given_take (c := c) hkl
        have hf' := given_fine (l := l.take k) hf
        have hlk : (l.take k).length ≤ l.length := by simp; omega
        generalize Pl.given c (l.take k) = d at hA hN hf'
        have HN := Lib.hid hN; have hck := hc k hkl; have hxk := hx _ (List.getElem_mem hkl)
        generalize l[k] = t at HN hck hxk
        clear hN hc hx hl
        obtain ⟨d_gA, d_bA, d_hA, d_gc, d_bc, d_hc, hb0, ⟨cs, hb1, hcs⟩, hoff, hbel⟩ := hA
        have Hb0 := Lib.hid hb0; have Hb1 := Lib.hid hb1; have Hoff := Lib.hid hoff; have Hbel := Lib.hid hbel; have HF := Lib.hid hf'
        have hg0 := (hbel.cell (p := ⟨b, off + k, none⟩) hb).trans hck
        have hbw : b < wr.heap.size := by have := hbel.size; omega
        clear hb0 hb1 hoff hbel hf' hf hck
        obtain ⟨x0, x1, x2, x3, x4, x5⟩ := box_cells d _ _ _ _ _ _ Hb0.out
        have fz : ∀ i, wr.frozen? ⟨w.heap.size, i, none⟩ = false := blk_frozen Hb0.out
        have f0 := fz 0; have f3 := fz 3; have f4 := fz 4; have f5 := fz 5; clear fz
        have hs0 : w.heap.size < wr.heap.size := lt_of_block Hb0.out
        have hs1 : w.heap.size + 1 < wr.heap.size := lt_of_block Hb1.out
        have hki : (k : Int) < (l.length : Int) := by omega
        by_cases h30 : t = 30
        · have e1 : (t == 30) = true := by rw [beq_iff_eq]; exact h30
          have HD : Hid (Pl.give d t = { d with hooks := true }) := by show _ = _; rw [Pl.give, if_pos h30]
          clear h30
          go_wp2_with fail
          go_roundw
          case rel => 
            refine ⟨k + 1, by omega, by go_num, ?_⟩
            rw [HN.out, HD.out]
            exact ⟨d_gA, d_bA, d_hA, d_gc, d_bc, d_hc, by have := blk_set Hb0.out (i := 5) (.bool true); simpa using this, ⟨cs, by rw [Below.heap_setCell _ _ _ _ (by simp)]; exact Hb1.out, hcs⟩, ⟨Hoff.out.gauges.setCell (.inl rfl) _, Hoff.out.brakes.setCell (.inl rfl) _, Hoff.out.heats.setCell (.inl rfl) _⟩, Hbel.out.setCell (Nat.le_refl _) _⟩
          case measure => simp [intOf]; omega
        · have e1 : (t == 30) = false := by rw [beq_eq_false_iff_ne]; exact h30
          by_cases h20 : 20 < t
          · have HD : Hid (Pl.give d t = { d with heats := Pl.insert (t - 20) d.heats }) := by show _ = _; rw [Pl.give, if_neg h30, if_pos h20]
            have HW := Lib.hid (with_any d_hA d_hc d.heats (t - 20) wr Hoff.out.heats.ints (by have := HF.out.lH; omega) HF.out.aH)
            go_wp2_with (go_at_call 60; refine HW.out.mono ?_; rintro e w1 ⟨g, cg, rfl, hgw, hI, hb1⟩; have H1 := Lib.hid hI; have H2 := Lib.hid hb1; have fz : w1.frozen? ⟨w.heap.size, 4, none⟩ = false := blk_frozen (blk_below Hb0.out hb1 hs0) 4; have x6 := (hb1.cell (p := ⟨w.heap.size, 4, none⟩) hs0).trans x4; have hs2 : w.heap.size < w1.heap.size := lt_of_block (blk_below Hb0.out hb1 hs0); clear hI hb1)
            go_roundw
            case rel =>
              refine ⟨k + 1, by omega, by go_num, ?_⟩
              rw [HN.out, HD.out]
              exact ⟨d_gA, d_bA, (some ⟨g, 0, none⟩), d_gc, d_bc, cg, by have := blk_set (blk_below Hb0.out H2.out hs0) (i := 4) (.slice (some ⟨g, 0, none⟩) (Pl.insert (t - 20) d.heats).length cg); simpa using this, ⟨cs, by rw [Below.heap_setCell _ _ _ _ (by simp)]; exact blk_below Hb1.out H2.out hs1, hcs⟩, ⟨IntsOff.setCell (Hoff.out.gauges.below H2.out) (.inl rfl) _, IntsOff.setCell (Hoff.out.brakes.below H2.out) (.inl rfl) _, IntsOff.setCell (.of_new H1.out (by omega)) (.inl rfl) _⟩, (Hbel.out.trans (H2.out.mono (by omega))).setCell (Nat.le_refl _) _⟩
            case measure => simp [intOf]; omega
          · by_cases h10 : 10 < t
            · have HD : Hid (Pl.give d t = { d with brakes := Pl.insert (t - 10) d.brakes }) := by show _ = _; rw [Pl.give, if_neg h30, if_neg h20, if_pos h10]
              have HW := Lib.hid (with_any d_bA d_bc d.brakes (t - 10) wr Hoff.out.brakes.ints (by have := HF.out.lB; omega) HF.out.aB)
              go_wp2_with (go_at_call 60; refine HW.out.mono ?_; rintro e w1 ⟨g, cg, rfl, hgw, hI, hb1⟩; have H1 := Lib.hid hI; have H2 := Lib.hid hb1; have fz : w1.frozen? ⟨w.heap.size, 3, none⟩ = false := blk_frozen (blk_below Hb0.out hb1 hs0) 3; have x6 := (hb1.cell (p := ⟨w.heap.size, 3, none⟩) hs0).trans x3; have hs2 : w.heap.size < w1.heap.size := lt_of_block (blk_below Hb0.out hb1 hs0); clear hI hb1)
              go_roundw
              case rel =>
                refine ⟨k + 1, by omega, by go_num, ?_⟩
                rw [HN.out, HD.out]
                exact ⟨d_gA, (some ⟨g, 0, none⟩), d_hA, d_gc, cg, d_hc, by have := blk_set (blk_below Hb0.out H2.out hs0) (i := 3) (.slice (some ⟨g, 0, none⟩) (Pl.insert (t - 10) d.brakes).length cg); simpa using this, ⟨cs, by rw [Below.heap_setCell _ _ _ _ (by simp)]; exact blk_below Hb1.out H2.out hs1, hcs⟩, ⟨IntsOff.setCell (Hoff.out.gauges.below H2.out) (.inl rfl) _, IntsOff.setCell (.of_new H1.out (by omega)) (.inl rfl) _, IntsOff.setCell (Hoff.out.heats.below H2.out) (.inl rfl) _⟩, (Hbel.out.trans (H2.out.mono (by omega))).setCell (Nat.le_refl _) _⟩
              case measure => simp [intOf]; omega
            · have HD : Hid (Pl.give d t = { d with gauges := Pl.insert (t) d.gauges }) := by show _ = _; rw [Pl.give, if_neg h30, if_neg h20, if_neg h10]
              have HW := Lib.hid (with_any d_gA d_gc d.gauges (t) wr Hoff.out.gauges.ints (by have := HF.out.lG; omega) HF.out.aG)
              go_wp2_with (go_at_call 60; refine HW.out.mono ?_; rintro e w1 ⟨g, cg, rfl, hgw, hI, hb1⟩; have H1 := Lib.hid hI; have H2 := Lib.hid hb1; have fz : w1.frozen? ⟨w.heap.size, 0, none⟩ = false := blk_frozen (blk_below Hb0.out hb1 hs0) 0; have x6 := (hb1.cell (p := ⟨w.heap.size, 0, none⟩) hs0).trans x0; have hs2 : w.heap.size < w1.heap.size := lt_of_block (blk_below Hb0.out hb1 hs0); clear hI hb1)
              go_roundw
              case rel =>
                refine ⟨k + 1, by omega, by go_num, ?_⟩
                rw [HN.out, HD.out]
                exact ⟨(some ⟨g, 0, none⟩), d_bA, d_hA, cg, d_bc, d_hc, by have := blk_set (blk_below Hb0.out H2.out hs0) (i := 0) (.slice (some ⟨g, 0, none⟩) (Pl.insert (t) d.gauges).length cg); simpa using this, ⟨cs, by rw [Below.heap_setCell _ _ _ _ (by simp)]; exact blk_below Hb1.out H2.out hs1, hcs⟩, ⟨IntsOff.setCell (.of_new H1.out (by omega)) (.inl rfl) _, IntsOff.setCell (Hoff.out.brakes.below H2.out) (.inl rfl) _, IntsOff.setCell (Hoff.out.heats.below H2.out) (.inl rfl) _⟩, (Hbel.out.trans (H2.out.mono (by omega))).setCell (Nat.le_refl _) _⟩
              case measure => simp [intOf]; omega
      · obtain rfl : k = l.length := by omega
        rw [List.take_length] at hA
        have HA := Lib.hid hA; clear hA
        obtain ⟨d_gA, d_bA, d_hA, d_gc, d_bc, d_hc, hb0, ⟨cs, hb1, hcs⟩, hoff, hbel⟩ := HA.out
        have hfin := given_fine (l := l) hf
        clear HA
        generalize hD : Pl.given c l = d at hb0 hoff hfin
        have HD := Lib.hid hD; clear hD
        obtain ⟨v0, v1, v2, v3, v4, v5, rfl⟩ := six_cells hcs
        have Hb0 := Lib.hid hb0; have Hb1 := Lib.hid hb1; have Hoff := Lib.hid hoff; have Hbel := Lib.hid hbel; have HF := Lib.hid hfin
        obtain ⟨x0, x1, x2, x3, x4, x5⟩ := box_cells d _ _ _ _ _ _ hb0
        have y0 : wr.cell? ⟨w.heap.size + 1, 0, none⟩ = some v0 := blk_cell hb1 0
        have y1 : wr.cell? ⟨w.heap.size + 1, 1, none⟩ = some v1 := blk_cell hb1 1
        have y2 : wr.cell? ⟨w.heap.size + 1, 2, none⟩ = some v2 := blk_cell hb1 2
        have y3 : wr.cell? ⟨w.heap.size + 1, 3, none⟩ = some v3 := blk_cell hb1 3
        have y4 : wr.cell? ⟨w.heap.size + 1, 4, none⟩ = some v4 := blk_cell hb1 4
        have y5 : wr.cell? ⟨w.heap.size + 1, 5, none⟩ = some v5 := blk_cell hb1 5
        have f0 : wr.frozen? ⟨w.heap.size + 1, 0, none⟩ = false := blk_frozen hb1 0
        have f1 : wr.frozen? ⟨w.heap.size + 1, 1, none⟩ = false := blk_frozen hb1 1
        have f2 : wr.frozen? ⟨w.heap.size + 1, 2, none⟩ = false := blk_frozen hb1 2
        have f3 : wr.frozen? ⟨w.heap.size + 1, 3, none⟩ = false := blk_frozen hb1 3
        have f4 : wr.frozen? ⟨w.heap.size + 1, 4, none⟩ = false := blk_frozen hb1 4
        have f5 : wr.frozen? ⟨w.heap.size + 1, 5, none⟩ = false := blk_frozen hb1 5
        have hs0 : w.heap.size < wr.heap.size := lt_of_block hb0
        have hs1 : w.heap.size + 1 < wr.heap.size := lt_of_block hb1
        clear hb0 hb1 hoff hbel hfin hcs hf
        go_wp2_with fail
        refine bodyPost_ret (v := .agg #[.slice d_gA d.gauges.length d_gc, .int .i64 d.size, .int .i64 d.load, .slice d_bA d.brakes.length d_bc, .slice d_hA d.heats.length d_hc, .bool d.hooks]) (by simp [results, Tryz.results41, go_sem, y0, y1, y2, y3, y4, y5]) rfl ?_
        rw [HD.out]
        refine ⟨d_gA, d_bA, d_hA, d_gc, d_bc, d_hc, rfl, ?_, ?_⟩
        · exact COff.reads ((((((Hoff.out.setCell (.inr rfl) _).setCell (.inr rfl) _).setCell (.inr rfl) _).setCell (.inr rfl) _).setCell (.inr rfl) _).setCell (.inr rfl) _) HF.out hm
        · (repeat (first | exact Hbel.out | refine Below.setCell ?_ (by simp) _))
end Go.Proofs.YtpbjpochjagicaaGreatDoorRR
