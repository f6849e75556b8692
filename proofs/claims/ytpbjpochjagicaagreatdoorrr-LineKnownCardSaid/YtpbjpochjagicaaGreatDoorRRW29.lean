/- Walks: the walk over all ways. Walks: the walk over all ways, on to the next places. -/
import Derived.Test.YtpbjpochjagicaaGreatDoorRRW28
namespace Go.Proofs.YtpbjpochjagicaaGreatDoorRR
open Go.RowKit

def tripMax : Nat := 3000000000000
theorem trip_info : (Tryz.prog.info? 72).map (fun i => (i.zero, i.size, i.bytes)) = some (some (.agg #[.slice none 0 0, .int .i64 0, .int .i64 0]), 3, 40) := by kernel_rfl

/-- What the walk has captured, as it lay when the walk began. -/
structure WayFix (w0 : World) (bg bf bm bB bn bx bw X N B0 : Nat) (c : Pl.Cch) (c_gA c_bA c_hA : Option Addr) (c_gc c_bc c_hc : Nat) (n : Pl.Nt) (n_tA n_sA : Option Addr) (n_tc n_sc : Nat) (ds : Int) : Prop where
  goal : w0.heap[bg]? = some (.cells #[.int .i64 ds] 3 (0, 0))
  mbox : w0.heap[bm]? = some (.cells #[.map (some bB)] 61 (0, 0))
  net : w0.heap[bn]? = some (.cells #[.int .i64 n.stops, .slice n_tA n.tracks.length n_tc, .slice n_sA n.shops.length n_sc] 25 (0, 0))
  ptr : w0.heap[bx]? = some (.cells #[.pointer (some ⟨X, 0, none⟩)] 55 (0, 0))
  wbox : w0.heap[bw]? = some (.cells #[.func (.func 31) #[] #[.pointer (some ⟨bg, 0, none⟩), .pointer (some ⟨bf, 0, none⟩), .pointer (some ⟨bm, 0, none⟩), .pointer (some ⟨bn, 0, none⟩), .pointer (some ⟨bx, 0, none⟩), .pointer (some ⟨bw, 0, none⟩)]] 70 (0, 0))
  car : CarAt w0 X N c c_gA c_bA c_hA c_gc c_bc c_hc n n_tA n_sA n_tc n_sc none 0 0
  hn : NReads w0 B0 n n_tA n_sA n_tc n_sc
  hr : CReads w0 B0 c c_gA c_bA c_hA c_gc c_bc c_hc
  ne : ∀ k, (k = bg ∨ k = bm ∨ k = bn ∨ k = bx ∨ k = bw ∨ k = X ∨ k = N) → k ≠ bf ∧ k ≠ bB
  low : B0 ≤ bf ∧ B0 ≤ bB ∧ B0 ≤ w0.heap.size ∧ bf ≠ bB

/-- What the walk leaves. -/
def WalkPost (w0 : World) (bf bB : Nat) (w : World) (ts : List Pl.Trip) (es : List (Pl.Place × Nat)) (r : Option Nat) (e : Ending) (w' : World) : Prop :=
  (∃ v, e = .returned v) ∧ ∃ ck' r', WalkAt w0 bf bB w' ts es ck' r' ∧ KeptN bf bB r w w' ∧ RowOk w.heap.size r r'

section
variable {w0 : World} {bg bf bm bB bn bx bw X N B0 : Nat} {c : Pl.Cch} {c_gA c_bA c_hA : Option Addr} {c_gc c_bc c_hc : Nat} {n : Pl.Nt} {n_tA n_sA : Option Addr} {n_tc n_sc : Nat} {ds : Int}
theorem WayFix.blk (hF : WayFix w0 bg bf bm bB bn bx bw X N B0 c c_gA c_bA c_hA c_gc c_bc c_hc n n_tA n_sA n_tc n_sc ds) {w : World} {ts : List Pl.Trip} {es : List (Pl.Place × Nat)} {ck : Nat} {r : Option Nat} (h : WalkAt w0 bf bB w ts es ck r) {k : Nat} {o : Obj}
    (hk : k = bg ∨ k = bm ∨ k = bn ∨ k = bx ∨ k = bw ∨ k = X ∨ k = N) (ho : w0.heap[k]? = some o) : w.heap[k]? = some o :=
  (h.old k (lt_of_block ho) (hF.ne k hk).1 (hF.ne k hk).2).trans ho
theorem WayFix.far (hF : WayFix w0 bg bf bm bB bn bx bw X N B0 c c_gA c_bA c_hA c_gc c_bc c_hc n n_tA n_sA n_tc n_sc ds) {w : World} {ts : List Pl.Trip} {es : List (Pl.Place × Nat)} {ck : Nat} {r : Option Nat} (h : WalkAt w0 bf bB w ts es ck r) :
    CarAt w X N c c_gA c_bA c_hA c_gc c_bc c_hc n n_tA n_sA n_tc n_sc none 0 0 ∧ NReads w w.heap.size n n_tA n_sA n_tc n_sc ∧ CReads w w.heap.size c c_gA c_bA c_hA c_gc c_bc c_hc := by
  have hk : ∀ p : Addr, p.block < B0 → w.cell? p = w0.cell? p := fun p hp => World.cell?_of_block (h.old _ (by have := hF.low.2.2.1; omega) (by have := hF.low.1; omega) (by have := hF.low.2.1; omega))
  have hs : B0 ≤ w.heap.size := Nat.le_trans hF.low.2.2.1 h.size
  refine ⟨hF.car.of_blocks (h.old X hF.car.ltX (hF.ne X (by simp)).1 (hF.ne X (by simp)).2) (h.old N hF.car.ltN (hF.ne N (by simp)).1 (hF.ne N (by simp)).2), (hF.hn.keep hk).more hs, ?_⟩
  exact (⟨hF.hr.gauges.keep hk, hF.hr.brakes.keep hk, hF.hr.heats.keep hk, hF.hr.lenG, hF.hr.lenB, hF.hr.lenH⟩ : CReads w B0 c c_gA c_bA c_hA c_gc c_bc c_hc).more hs
end

theorem clone_own (A : Option Addr) (c : Nat) (l : List Int) (w : World) (hl : Ints w w.heap.size A l) (hlen : l.length ≤ 1000) :
    Calls Tryz.prog 32 #[.slice A l.length c] w fun e w' => ∃ A' c', e = .returned (.slice A' l.length c') ∧ OwnInts w' w.heap.size A' c' l ∧ Below w.heap.size w w' := by
  rcases hl.form with rfl | ⟨b, off, rfl, hb, hc⟩
  · cases A with
    | none =>
      refine (Tryz.slices_Clone_int_nil 0 c w).mono ?_
      rintro e w' ⟨rfl, rfl⟩
      exact ⟨none, 0, rfl, OwnInts.nil _ _, Below.refl _ _⟩
    | some a =>
      refine (Tryz.slices_Clone_int_zero a c w).mono ?_
      rintro e w' ⟨v', rfl, hown, _, hb⟩
      obtain ⟨A', c', rfl⟩ := own_slice hown
      exact ⟨A', c', rfl, hown, hb⟩
  · refine (Tryz.slices_Clone_int b off l.length c l w (Nat.le_refl _) (by omega) (fun j hj => ?_)).mono ?_
    · rw [hc j hj, List.getD_eq_getElem?_getD, List.getElem?_eq_getElem hj]; rfl
    rintro e w' ⟨v', rfl, hown, _, hb⟩
    obtain ⟨A', c', rfl⟩ := own_slice hown
    rw [List.take_length] at hown
    exact ⟨A', c', rfl, hown, hb⟩

/-- 'append(found, trip)'. -/
theorem step_app_trip {P : Program} {ops : Array Oper} {o : Oper} {a : Act} {w : World} {K : Act → World → Prop} {Q : Exit → Act → World → Prop} {E : Prop}
    (hg : o.guard = none) (s x : Operand) (hop : o.op = Op.call { callee := Callee.builtin Builtin.append, args := #[s, x], argTypes := #[69, 69] })
    (ht : P.underlying 69 = some (.slice 72)) (hi : (P.info? 72).map (fun i => (i.zero, i.size, i.bytes)) = some (some (.agg #[.slice none 0 0, .int .i64 0, .int .i64 0]), 3, 40))
    (base : Nat) (A : Option Addr) (ca n : Nat) (cs : List Value) (hs : a.eval s = .slice A n ca) (hown : w.ownsRow base 72 3 (.slice A n ca) n cs)
    (g c' : Nat) (u1 u2 u3 : Value) (hx : a.eval x = .slice (some ⟨g, 0, none⟩) 1 c') (hb : w.heap[g]? = some (.cells #[u1, u2, u3] 72 (0, 0))) (h1 : ∀ u ∈ [u1, u2, u3], u.oneCell' = true)
    (hn : n + 1 ≤ tripMax) (hbase : base ≤ w.heap.size)
    (hK : ∀ g' cap w', w'.ownsRow base 72 3 (.slice (some ⟨g', 0, none⟩) (n + 1) cap) (n + 1) (cs ++ [u1, u2, u3]) → w.grownBy w' (Value.slice A n ca).ownBlock → (A.map (·.block) = some g' ∨ g' = w.heap.size) → g' < w'.heap.size →
      K (a.put o.dst (.slice (some ⟨g', 0, none⟩) (n + 1) cap)) w') :
    if Region.wanted o (yielded ops a.tmps) = true then Oper.wp P o a w K Q else E := by
  obtain ⟨i, h2, h3, h4, h5⟩ := info_parts hi
  unfold tripMax at hn
  refine step_append_lies w hg s x 69 hop base 72 i (.agg #[.slice none 0 0, .int .i64 0, .int .i64 0]) 3 40 ht h2 h3 h4 h5 rfl (by omega) (.slice A n ca) n cs hs hown
    ⟨g, 0, none⟩ 1 c' [u1, u2, u3] hx rfl (fun j u hu => ?_) h1 (by omega) (by simp only [maxLen]; omega) (by omega) hbase w.heap.size rfl ?_
  · have hc := blk_cell hb j
    rw [show (Addr.add ⟨g, 0, none⟩ j) = ⟨g, j, none⟩ by unfold Addr.add; split <;> simp_all]
    rw [hc]; simpa using hu
  · intro g' cap w' r1 r2 r3 r4
    exact hK g' cap w' r1 r2 (by rwa [ownBlock_slice] at r3) r4

/-- What has been found, with a trip more. -/
theorem found_end {w0 : World} {bf bB : Nat} {w : World} {ts : List Pl.Trip} {es : List (Pl.Place × Nat)} {ck : Nat} {r : Option Nat} (h : WalkAt w0 bf bB w ts es ck r) (hne : bf ≠ bB)
    {A : Option Addr} {ca : Nat} {cs : List Value} (f1 : w.heap[bf]? = some (.cells #[.slice A ts.length ca] 69 (0, 0))) (f2 : w.ownsRow w0.heap.size 72 3 (.slice A ts.length ca) ts.length cs)
    (f3 : TripCells w (Sx bf bB r) ts cs) (f4 : A.map (·.block) = r) {w3 : World} (hb : Below w.heap.size w w3) {t : Pl.Trip} {A' : Option Addr} {c' : Nat} (hway : OwnInts w3 w.heap.size A' c' t.way) (hl : t.way.length ≤ 1000)
    {w4 : World} {o : Obj} {g' cap : Nat} (hown4 : w4.ownsRow w0.heap.size 72 3 (.slice (some ⟨g', 0, none⟩) (ts.length + 1) cap) (ts.length + 1) (cs ++ [.slice A' t.way.length c', .int .i64 t.km, .int .i64 t.changes]))
    (hgrow : (w3.alloc o).grownBy w4 (Value.slice A ts.length ca).ownBlock) (hat : A.map (·.block) = some g' ∨ g' = w3.heap.size + 1) (hlt : g' < w4.heap.size) (v : Value) :
    WalkPost w0 bf bB w (ts ++ [t]) es r (.returned v) (w4.setCell ⟨bf, 0, none⟩ (.slice (some ⟨g', 0, none⟩) (ts ++ [t]).length cap)) := by
  rw [ownBlock_slice, f4] at hgrow
  rw [f4] at hat
  have hbs := hb.size
  have hrow : ∀ k, r = some k → ∃ cur, w.heap[k]? = some (.cells cur 72 (0, 0)) := by
    intro k hk
    rcases f2.2 with ⟨h2, _⟩ | ⟨g, cp, cur, hv, _, hh, _⟩
    · injection h2 with h2; subst h2; rw [← f4] at hk; cases hk
    · injection hv with hv; subst hv
      rw [← f4] at hk; simp at hk; subst hk
      exact ⟨cur, hh⟩
  have hfr : some bf ≠ r := fun e => by
    obtain ⟨cur, hc⟩ := hrow bf e.symm
    rw [f1] at hc; injection hc with hc; injection hc with _ hc _; cases hc
  have hBr : some bB ≠ r := fun e => by
    obtain ⟨cur, hc⟩ := hrow bB e.symm
    have hm : w.heap[bB]? = some (.map (ents es) ck) := h.map
    rw [hm] at hc; cases hc
  have hk3 : ∀ k, k < w3.heap.size → some k ≠ r → w4.heap[k]? = w3.heap[k]? := fun k hk hr => (hgrow.block k (by simp; omega) hr).trans (Below.heap_alloc _ _ _ hk)
  have hkw : ∀ k, k < w.heap.size → some k ≠ r → w4.heap[k]? = w.heap[k]? := fun k hk hr => (hk3 k (by omega) hr).trans (hb.block k hk)
  have hset : ∀ k, k ≠ bf → (w4.setCell ⟨bf, 0, none⟩ (.slice (some ⟨g', 0, none⟩) (ts ++ [t]).length cap)).heap[k]? = w4.heap[k]? := fun k hk => Below.heap_setCell _ _ _ k hk
  have hs4 : w3.heap.size + 1 ≤ w4.heap.size := by have := hgrow.size; simpa using this
  have hg' : ∀ k, k < w.heap.size → some k ≠ r → k ≠ g' := by
    intro k hk hr e
    rcases hat with h1 | h1
    · exact hr (by rw [h1, e])
    · omega
  have hr0 : ∀ k, r = some k → w0.heap.size ≤ k ∧ k < w.heap.size := h.hr
  refine ⟨⟨v, rfl⟩, ck, some g', ⟨?_, ?_, ?_, ?_, ?_, ?_, ?_, ?_⟩, ⟨?_, ?_⟩, ?_⟩
  · show w4.os = _; rw [hgrow.os]; exact hb.os.trans h.os
  · show w4.tape = _; rw [hgrow.tape]; exact hb.tape.trans h.tape
  · show w4.output = _; rw [hgrow.output]; exact hb.output.trans h.output
  · rw [size_setCell]; have := h.size; omega
  · intro k hk h1 h2
    have hr : some k ≠ r := fun e => by have := (hr0 k e.symm).1; omega
    exact ((hset k h1).trans (hkw k (by have := h.size; omega) hr)).trans (h.old k hk h1 h2)
  · refine ⟨some ⟨g', 0, none⟩, cap, cs ++ [.slice A' t.way.length c', .int .i64 t.km, .int .i64 t.changes], ?_, ?_, ?_, rfl⟩
    · have h1 := hkw bf (lt_of_block f1) hfr
      exact blk_set (h1.trans f1) _
    · have hl2 : (ts ++ [t]).length = ts.length + 1 := by simp
      rw [hl2]
      refine ⟨hown4.1, ?_⟩
      rcases hown4.2 with ⟨h2, _⟩ | ⟨g, cp, cur, hv, hg, hh, rr⟩
      · cases h2
      · refine .inr ⟨g, cp, cur, hv, hg, ?_, rr⟩
        have hgb : g ≠ bf := fun e => by
          subst e
          have h1 := (hkw _ (lt_of_block f1) hfr).trans f1
          rw [h1] at hh; injection hh with hh; injection hh with _ hh _; cases hh
        exact (Below.heap_setCell _ _ _ g hgb).trans hh
    · refine TripCells.snoc ?_ hl (f3.keep ?_)
      · intro k x hx
        obtain ⟨b, off, e1, e2, e3⟩ := hway.ints k x hx
        subst e1
        have hbg := own_from (n := 0) hway b rfl
        have hbr : some b ≠ r := fun e => by have := (hr0 b e.symm).2; omega
        have hbf : b ≠ bf := fun e => by have := lt_of_block f1; omega
        refine ⟨b, off, rfl, by rw [size_setCell]; omega, ?_, ?_⟩
        · rintro (h1 | h1 | h1)
          · exact hbf h1
          · have := lt_of_block h.map; omega
          · injection h1 with h1
            rcases hat with h2 | h2
            · have := (hr0 g' h2).2; omega
            · omega
        · rw [World.cell?_of_block (hset b hbf), World.cell?_of_block (hk3 b e2 hbr)]
          exact e3
      · intro b h1 h2
        have hbr : some b ≠ r := fun e => h2 (.inr (.inr e))
        have hbf : b ≠ bf := fun e => h2 (.inl e)
        refine ⟨?_, (hset b hbf).trans (hkw b h1 hbr)⟩
        rintro (h3 | h3 | h3)
        · exact hbf h3
        · exact h2 (.inr (.inl h3))
        · injection h3 with h3; exact hg' b h1 hbr h3
  · exact h.map.of_block ((hset bB (Ne.symm hne)).trans (hkw bB (lt_of_block h.map) hBr))
  · intro k hk; injection hk with hk; subst hk
    refine ⟨?_, by rw [size_setCell]; exact hlt⟩
    rcases hat with h2 | h2
    · exact (hr0 _ h2).1
    · have := h.size; omega
  · rw [size_setCell]; omega
  · intro k hk h1 _ h3
    exact (hset k h1).trans (hkw k hk h3)
  · rcases hat with h2 | h2
    · exact .inl h2.symm
    · exact .inr ⟨g', rfl, by omega⟩

set_option maxRecDepth 100000 in
set_option maxHeartbeats 4000000 in
/-- At the goal: the trip is found. -/
theorem walk_found {w0 : World} {bg bf bm bB bn bx bw X N B0 : Nat} (c : Pl.Cch) (c_gA c_bA c_hA : Option Addr) (c_gc c_bc c_hc : Nat) (n : Pl.Nt) (n_tA n_sA : Option Addr) (n_tc n_sc : Nat) {ds : Int} (hF : WayFix w0 bg bf bm bB bn bx bw X N B0 c c_gA c_bA c_hA c_gc c_bc c_hc n n_tA n_sA n_tc n_sc ds)
    (pg : Int) (t : Pl.Trip) (tA : Option Addr) (tc : Nat) (w : World) (ts : List Pl.Trip) (es : List (Pl.Place × Nat)) (ck : Nat) (r : Option Nat) (h : WalkAt w0 bf bB w ts es ck r)
    (ht : IntsN w (Sx bf bB r) tA t.way) (hl : t.way.length ≤ 1000) (hmax : ts.length + 1 ≤ tripMax) :
    Calls Tryz.prog 31 #[.agg #[.int .i64 ds, .int .i64 pg], .agg #[.slice tA t.way.length tc, .int .i64 t.km, .int .i64 t.changes], .pointer (some ⟨bg, 0, none⟩), .pointer (some ⟨bf, 0, none⟩), .pointer (some ⟨bm, 0, none⟩), .pointer (some ⟨bn, 0, none⟩), .pointer (some ⟨bx, 0, none⟩), .pointer (some ⟨bw, 0, none⟩)] w
      (WalkPost w0 bf bB w (ts ++ [t]) es r) := by
  obtain ⟨A, ca, cs, f1, f2, f3, f4⟩ := h.fnd
  have x0 : w.cell? ⟨bg, 0, none⟩ = some (.int .i64 ds) := blk_cell (hF.blk h (by simp) hF.goal) 0
  have y0 : w.cell? ⟨bf, 0, none⟩ = some (.slice A ts.length ca) := blk_cell f1 0
  have hbg := lt_of_block (hF.blk h (by simp) hF.goal)
  have hbf := lt_of_block f1
  obtain ⟨tw, tk, th⟩ := t
  simp only at hl ht ⊢
  have Hh := Lib.hid h; have HF := Lib.hid hF; have Hf1 := Lib.hid f1; have Hf2 := Lib.hid f2; have Hf3 := Lib.hid f3; have Hf4 := Lib.hid f4; have Ht := Lib.hid ht; have Hmax := Lib.hid hmax
  clear h hF f1 f2 f3 f4 ht hmax
  have hbA : Below w.heap.size w ((w.alloc (.cells #[.int .i64 ds, .int .i64 pg] 64)).alloc (.cells #[.slice tA tw.length tc, .int .i64 tk, .int .i64 th] 72)).drew := by
    have := ((Below.refl w.heap.size w).alloc (Nat.le_refl _) (.cells #[.int .i64 ds, .int .i64 pg] 64)).alloc (by simp) (.cells #[.slice tA tw.length tc, .int .i64 tk, .int .i64 th] 72)
    exact ⟨this.os, this.tape, this.output, this.size, this.block⟩
  have hsA : ((w.alloc (.cells #[.int .i64 ds, .int .i64 pg] 64)).alloc (.cells #[.slice tA tw.length tc, .int .i64 tk, .int .i64 th] 72)).drew.heap.size = w.heap.size + 1 + 1 := by show (World.alloc _ _).heap.size = _; simp
  have hbox : ((w.alloc (.cells #[.int .i64 ds, .int .i64 pg] 64)).alloc (.cells #[.slice tA tw.length tc, .int .i64 tk, .int .i64 th] 72)).drew.heap[w.heap.size + 1]? = some (.cells #[.slice tA tw.length tc, .int .i64 tk, .int .i64 th] 72 (0, 0)) := by
    have := heap_alloc_new (w.alloc (.cells #[.int .i64 ds, .int .i64 pg] 64)) (.cells #[.slice tA tw.length tc, .int .i64 tk, .int .i64 th] 72)
    show (World.alloc _ _).heap[w.heap.size + 1]? = _
    simpa using this
  have hK : ∀ w', Below (w.heap.size + 1 + 1) ((w.alloc (.cells #[.int .i64 ds, .int .i64 pg] 64)).alloc (.cells #[.slice tA tw.length tc, .int .i64 tk, .int .i64 th] 72)).drew w' →
      w'.cell? ⟨bf, 0, none⟩ = some (.slice A ts.length ca) ∧ w'.cell? ⟨w.heap.size + 1, 0, none⟩ = some (.slice tA tw.length tc) ∧ w'.cell? ⟨w.heap.size + 1, 1, none⟩ = some (.int .i64 tk) ∧ w'.cell? ⟨w.heap.size + 1, 2, none⟩ = some (.int .i64 th) := by
    intro w' hb'
    have h1 := blk_below hbox hb' (by omega)
    exact ⟨blk_cell (blk_below (blk_below Hf1.out hbA hbf) hb' (by omega)) 0, blk_cell h1 0, blk_cell h1 1, blk_cell h1 2⟩
  have HC := Lib.hid (clone_own tA tc tw ((w.alloc (.cells #[.int .i64 ds, .int .i64 pg] 64)).alloc (.cells #[.slice tA tw.length tc, .int .i64 tk, .int .i64 th] 72)).drew ((Ht.out.ints.below hbA).more hbA.size) hl)
  have hnext : ∀ (w3 : World) (A' : Option Addr) (c' : Nat), OwnInts w3 ((w.alloc (.cells #[.int .i64 ds, .int .i64 pg] 64)).alloc (.cells #[.slice tA tw.length tc, .int .i64 tk, .int .i64 th] 72)).drew.heap.size A' c' tw →
      Below ((w.alloc (.cells #[.int .i64 ds, .int .i64 pg] 64)).alloc (.cells #[.slice tA tw.length tc, .int .i64 tk, .int .i64 th] 72)).drew.heap.size ((w.alloc (.cells #[.int .i64 ds, .int .i64 pg] 64)).alloc (.cells #[.slice tA tw.length tc, .int .i64 tk, .int .i64 th] 72)).drew w3 →
      (w3.cell? ⟨bf, 0, none⟩ = some (.slice A ts.length ca) ∧ w3.cell? ⟨w.heap.size + 1, 0, none⟩ = some (.slice tA tw.length tc) ∧ w3.cell? ⟨w.heap.size + 1, 1, none⟩ = some (.int .i64 tk) ∧ w3.cell? ⟨w.heap.size + 1, 2, none⟩ = some (.int .i64 th)) ∧
      bf < w3.heap.size ∧ w.heap.size + 1 < w3.heap.size ∧
      Hid ((w3.alloc (.cells #[.slice A' tw.length c', .int .i64 tk, .int .i64 th] 72)).ownsRow w0.heap.size 72 3 (.slice A ts.length ca) ts.length cs) ∧ w0.heap.size ≤ w3.heap.size + 1 ∧
      (∀ (w4 : World) (g' cap : Nat), w4.ownsRow w0.heap.size 72 3 (.slice (some ⟨g', 0, none⟩) (ts.length + 1) cap) (ts.length + 1) (cs ++ [.slice A' tw.length c', .int .i64 tk, .int .i64 th]) → (w3.alloc (.cells #[.slice A' tw.length c', .int .i64 tk, .int .i64 th] 72)).grownBy w4 (Value.slice A ts.length ca).ownBlock →
        (A.map (·.block) = some g' ∨ g' = (w3.alloc (.cells #[.slice A' tw.length c', .int .i64 tk, .int .i64 th] 72)).heap.size) → g' < w4.heap.size →
        (w4.cell? ⟨bf, 0, none⟩ = some (.slice A ts.length ca) ∧ w4.cell? ⟨w.heap.size + 1, 0, none⟩ = some (.slice tA tw.length tc) ∧ w4.cell? ⟨w.heap.size + 1, 1, none⟩ = some (.int .i64 tk) ∧ w4.cell? ⟨w.heap.size + 1, 2, none⟩ = some (.int .i64 th)) ∧ w4.frozen? ⟨bf, 0, none⟩ = false ∧ Hid (WalkPost w0 bf bB w (ts ++ [⟨tw, tk, th⟩]) es r (.returned (.tuple #[])) (w4.setCell ⟨bf, 0, none⟩ (.slice (some ⟨g', 0, none⟩) (ts.length + 1) cap)))) := by
    intro w3 A' c' hown hb
    rw [hsA] at hb hown
    have hs3 := hb.size
    rw [hsA] at hs3
    have hbW : Below w.heap.size w w3 := hbA.trans (hb.mono (by omega))
    have hrow := Hf2.out
    have hrow3 : w3.ownsRow w0.heap.size 72 3 (.slice A ts.length ca) ts.length cs := by
      refine ⟨hrow.1, ?_⟩
      rcases hrow.2 with h2 | ⟨g, cap, cur, hv, hg, hh, rr⟩
      · exact .inl h2
      · exact .inr ⟨g, cap, cur, hv, hg, (hbW.block g (lt_of_block hh)).trans hh, rr⟩
    refine ⟨hK w3 hb, by omega, by omega, World.ownsRow.alloc hrow3 _, by have := Hh.out.size; omega, fun w4 g' cap o4 gr at_ lt => ?_⟩
    have hway : OwnInts w3 w.heap.size A' c' tw := own_base (own_base hown)
    have hP := found_end Hh.out HF.out.low.2.2.2 Hf1.out Hf2.out Hf3.out Hf4.out hbW (t := ⟨tw, tk, th⟩) hway hl o4 gr (by simpa using at_) lt (.tuple #[])
    have hrl : ∀ k, (Value.slice A ts.length ca).ownBlock = some k → k < w.heap.size ∧ k ≠ bf := by
      intro k hk
      rcases hrow.2 with ⟨h2, _⟩ | ⟨g, cp, cur, hv, _, hh, _⟩
      · injection h2 with h2; subst h2; cases hk
      · injection hv with hv; subst hv
        simp [Value.ownBlock] at hk; subst hk
        refine ⟨lt_of_block hh, fun e => ?_⟩
        subst e
        rw [Hf1.out] at hh; injection hh with hh; injection hh with _ hh _; cases hh
    have hbf4 : w4.heap[bf]? = some (.cells #[.slice A ts.length ca] 69 (0, 0)) :=
      (gr.block bf (by simp; omega) (fun e => (hrl bf e.symm).2 rfl)).trans (blk_alloc (blk_below Hf1.out hbW hbf) _)
    have hbx4 : w4.heap[w.heap.size + 1]? = some (.cells #[.slice tA tw.length tc, .int .i64 tk, .int .i64 th] 72 (0, 0)) :=
      (gr.block (w.heap.size + 1) (by simp; omega) (fun e => by have := (hrl _ e.symm).1; omega)).trans (blk_alloc (blk_below hbox hb (by omega)) _)
    refine ⟨⟨blk_cell hbf4 0, blk_cell hbx4 0, blk_cell hbx4 1, blk_cell hbx4 2⟩, blk_frozen hbf4 0, ?_⟩
    show WalkPost _ _ _ _ _ _ _ _ _
    simpa using hP
  have HN := Lib.hid hnext
  have HK := Lib.hid hK
  clear hnext hK hbox hbA hsA
  go_enter Tryz.func31, Tryz.ntmps31
  go_wp2_with fail
  have hS := HK.out _ (Below.refl _ _)
  refine wp_region_G (by kernel_rfl) (fun w' => w'.cell? ⟨bf, 0, none⟩ = some (.slice A ts.length ca) ∧ w'.cell? ⟨w.heap.size + 1, 0, none⟩ = some (.slice tA tw.length tc) ∧ w'.cell? ⟨w.heap.size + 1, 1, none⟩ = some (.int .i64 tk) ∧ w'.cell? ⟨w.heap.size + 1, 2, none⟩ = some (.int .i64 th)) 11 ?_
  refine wpAnyG_take (i := 0) (v := ?v0) rfl (by kernel_rfl) (by kernel_rfl) (by kernel_rfl) (by kernel_rfl) (by rfl) (fun _ _ _ h => h) hS (Or.inl ⟨by rfl, ?hy0⟩) ?hr0
  case hy0 => (intro w hSw; (try dsimp only at hSw); go_simp; (try rfl))
  simp only [Act.put, List.setIfInBounds_toArray]
  refine wpAnyG_take (i := 1) (v := ?v1) rfl (by kernel_rfl) (by kernel_rfl) (by kernel_rfl) (by kernel_rfl) (by rfl) (fun _ _ _ h => h) hS (Or.inl ⟨by rfl, ?hy1⟩) ?hr1
  case hy1 => (intro w hSw; (try dsimp only at hSw); go_simp; (try rfl))
  simp only [Act.put]
  refine wpAnyG_take (i := 2) (v := ?v2) rfl (by kernel_rfl) (by kernel_rfl) (by kernel_rfl) (by kernel_rfl) (by rfl) (fun _ _ _ h => h) hS (Or.inl ⟨by rfl, ?hy2⟩) ?hr2
  case hy2 => (intro w hSw; (try dsimp only at hSw); go_simp; (try rfl))
  simp only [Act.put]
  refine wpAnyG_take (i := 4) (v := ?v4) rfl (by kernel_rfl) (by kernel_rfl) (by kernel_rfl) (by kernel_rfl) (by rfl) (fun _ _ _ h => h) hS (Or.inl ⟨by rfl, ?hy4⟩) ?hr4
  case hy4 => (intro w hSw; (try dsimp only at hSw); go_simp; (try rfl))
  simp only [Act.put]
  refine wpAnyG_take (i := 5) (v := ?v5) rfl (by kernel_rfl) (by kernel_rfl) (by kernel_rfl) (by kernel_rfl) (by rfl) (fun _ _ _ h => h) hS (Or.inl ⟨by rfl, ?hy5⟩) ?hr5
  case hy5 => (intro w hSw; (try dsimp only at hSw); go_simp; (try rfl))
  simp only [Act.put]
  refine wpAnyG_take (i := 6) (v := ?v6) rfl (by kernel_rfl) (by kernel_rfl) (by kernel_rfl) (by kernel_rfl) (by rfl) (fun _ _ _ h => h) hS (Or.inl ⟨by rfl, ?hy6⟩) ?hr6
  case hy6 => (intro w hSw; (try dsimp only at hSw); go_simp; (try rfl))
  simp only [Act.put]
  refine wpAnyG_take (i := 7) (v := ?v7) rfl (by kernel_rfl) (by kernel_rfl) (by kernel_rfl) (by kernel_rfl) (by rfl) (fun _ _ _ h => h) hS (Or.inl ⟨by rfl, ?hy7⟩) ?hr7
  case hy7 => (intro w hSw; (try dsimp only at hSw); go_simp; (try rfl))
  simp only [Act.put]
  refine wpAnyG_one (i := 3) rfl (by kernel_rfl) (by rfl) ?_
  intro K hK
  go_simp
  refine HC.out.mono ?_
  rintro e w3 ⟨A', c', rfl, hown, hb⟩
  obtain ⟨hS, hz1, hz2, hO, hz3, hX⟩ := HN.out w3 A' c' hown hb
  have HX := Lib.hid hX
  clear hX hown hb
  refine hK.out _ _ hS (fun _ => ?_)
  clear hK K
  try simp only [Act.put, List.setIfInBounds_toArray, List.set_cons_zero, List.set_cons_succ]
  refine wpAnyG_take (i := 8) (v := ?v8) rfl (by kernel_rfl) (by kernel_rfl) (by kernel_rfl) (by kernel_rfl) (by rfl) (fun _ _ _ h => h) hS (Or.inl ⟨by rfl, ?hy8⟩) ?hr8
  case hy8 => (intro w hSw; (try dsimp only at hSw); go_simp; (try rfl))
  simp only [Act.put, List.setIfInBounds_toArray]
  refine wpAnyG_one (i := 9) rfl (by kernel_rfl) (by rfl) ?_
  intro K hK
  go_simp
  have hS2 := And.intro ((World.cell?_alloc_lt w3 (.cells #[.slice A' tw.length c', .int .i64 tk, .int .i64 th] 72) ⟨bf, 0, none⟩ hz1).trans hS.1) (And.intro ((World.cell?_alloc_lt w3 (.cells #[.slice A' tw.length c', .int .i64 tk, .int .i64 th] 72) ⟨w.heap.size + 1, 0, none⟩ hz2).trans hS.2.1)
    (And.intro ((World.cell?_alloc_lt w3 (.cells #[.slice A' tw.length c', .int .i64 tk, .int .i64 th] 72) ⟨w.heap.size + 1, 1, none⟩ hz2).trans hS.2.2.1) ((World.cell?_alloc_lt w3 (.cells #[.slice A' tw.length c', .int .i64 tk, .int .i64 th] 72) ⟨w.heap.size + 1, 2, none⟩ hz2).trans hS.2.2.2)))
  refine hK.out _ _ hS2 (fun _ => ?_)
  clear hK K hS
  try simp only [Act.put, List.setIfInBounds_toArray, List.set_cons_zero, List.set_cons_succ]
  refine wpAnyG_one (i := 10) rfl (by kernel_rfl) (by rfl) ?_
  intro K hK
  refine step_app_trip (by rfl) (.tmp 20) (.tmp 29) (by rfl) Tryz.underlying69 trip_info w0.heap.size A ca ts.length cs (by rfl) hO.out w3.heap.size 1 (.slice A' tw.length c') (.int .i64 tk) (.int .i64 th) (by rfl) (heap_alloc_new w3 _) (by simp [Value.oneCell']) Hmax.out (by simp; omega) ?_
  intro g' cap w4 o4 gr at_ lt
  obtain ⟨hS, hf4, hP⟩ := HX.out w4 g' cap o4 gr at_ lt
  refine hK.out _ _ hS (fun _ => ?_)
  clear hK K hS2 gr o4 at_ lt hO HX
  try simp only [Act.put, List.setIfInBounds_toArray]
  have hc4 := hS.1
  refine wpAnyG_last (last := 11) rfl (by kernel_rfl) (by kernel_rfl) ?_
  intro K hK
  go_simp
  refine hK.out _ _ ?_
  clear hK K hc4 hS hf4
  go_wp2_with fail
  exact bodyPost_ret (results_none rfl _ _ _) rfl hP.out
end Go.Proofs.YtpbjpochjagicaaGreatDoorRR

namespace Go.Proofs.YtpbjpochjagicaaGreatDoorRR
open Go.RowKit

/-- 'append(s[:n:n], x)': always a new row, of the call's own. -/
theorem step_grow_own {P : Program} {ops : Array Oper} {o : Oper} {a : Act} {w : World} {K : Act → World → Prop} {Q : Exit → Act → World → Prop} {E : Prop}
    (hg : o.guard = none) (s x : Operand) (hop : o.op = Op.call { callee := Callee.builtin Builtin.append, args := #[s, x], argTypes := #[23, 23] })
    (ht : P.underlying 23 = some (.slice 3)) (hi : (P.info? 3).map (fun i => (i.zero, i.size, i.bytes)) = some (some (.int .i64 0), 1, 8))
    (A : Option Addr) (xs : List Int) (cap : Nat) (hcap : cap = xs.length) (hs : a.eval s = .slice A xs.length cap) (hnone : A = none → xs = []) (B : Nat) (hr : Ints w B A xs)
    (g c : Nat) (y : Int) (hx : a.eval x = .slice (some ⟨g, 0, none⟩) 1 c) (hc : w.cell? ⟨g, 0, none⟩ = some (.int .i64 y)) (hlen : xs.length ≤ 1000)
    (hK : ∀ g' c' w', OwnInts w' w.heap.size (some ⟨g', 0, none⟩) c' (xs ++ [y]) → Below w.heap.size w w' → K (a.put o.dst (.slice (some ⟨g', 0, none⟩) (xs ++ [y]).length c')) w') :
    if Region.wanted o (yielded ops a.tmps) = true then Oper.wp P o a w K Q else E := by
  obtain ⟨i, h1, h2, h3, h4⟩ := info_parts hi
  have hread := hr.reads
  refine step_append_grows hg s x 23 hop 3 i (.int .i64 0) 1 8 ht h1 h2 h3 h4 rfl (by omega) A xs.length cap (xs.map (Value.int .i64)) hs (fun h => by rw [hcap, hnone h]; simp) (by simp) (fun b hb j u hu => ?_)
    ⟨g, 0, none⟩ 1 c [.int .i64 y] hx rfl (fun j u hu => ?_) (fun u hu => by simp at hu; subst hu; rfl) (by omega) (by simp [maxLen]; omega) (by omega) ?_
  · have hn : 0 < xs.length := by
      have := (List.getElem?_eq_some_iff.1 hu).1
      simp at this; omega
    obtain ⟨ad, hA, _, hcell⟩ := hread.2 hn
    rw [hA] at hb; injection hb with hb; subst hb
    exact hcell j u hu
  · cases j with
    | zero => simp at hu; subst hu; simpa [Addr.add] using hc
    | succ j => simp at hu
  · intro v' w' hown hgrow
    obtain ⟨A2, c2, rfl⟩ := own_slice hown
    have hl : xs.length + 1 = (xs ++ [y]).length := by simp
    have hmap : xs.map (Value.int .i64) ++ [.int .i64 y] = (xs ++ [y]).map (Value.int .i64) := by simp
    rw [hl, hmap] at hown
    rcases hown.2 with ⟨_, h0⟩ | ⟨g', cap', cur, hv, _, _, hnc, _⟩
    · simp at h0
    · injection hv with hv1 hv2 hv3
      subst hv1 hv3
      rw [hl]
      exact hK g' _ w' hown (grown_none hgrow)

theorem run_slice_same (A : Option Addr) (n c : Nat) (h : n ≤ c) (w : World) : (Instr.slice 23 (.slice A n c) none (some (.int .i64 n)) (some (.int .i64 n))).run Tryz.prog w = .ok (.slice A n n) w := by
  have h0 : A.map (·.add 0) = A := by cases A <;> simp [Addr.add]
  have hs : (sizeOf (Tryz.prog.elem 23)).run Tryz.prog w = .ok 1 w := by kernel_rfl
  simp [Instr.slice, run_underlying Tryz.underlying23, Instr.sliceBounds, run_sliceBound, h]
  simp [go_sem]

section
variable {w0 : World} {bf bB : Nat} {w : World} {ts : List Pl.Trip} {es : List (Pl.Place × Nat)} {ck : Nat} {r : Option Nat}
theorem WalkAt.row (h : WalkAt w0 bf bB w ts es ck r) : ∀ k, r = some k → ∃ cur, w.heap[k]? = some (.cells cur 72 (0, 0)) := by
  intro k hk
  obtain ⟨A, c, cs, f1, f2, f3, f4⟩ := h.fnd
  rcases f2.2 with ⟨h2, _⟩ | ⟨g, cp, cur, hv, _, hh, _⟩
  · injection h2 with h2; subst h2; rw [← f4] at hk; cases hk
  · injection hv with hv; subst hv
    rw [← f4] at hk; simp at hk; subst hk
    exact ⟨cur, hh⟩
theorem WalkAt.mapNe (h : WalkAt w0 bf bB w ts es ck r) : some bB ≠ r ∧ bB ≠ bf := by
  refine ⟨fun e => ?_, fun e => ?_⟩
  · obtain ⟨cur, hc⟩ := h.row bB e.symm
    have hm : w.heap[bB]? = some (.map (ents es) ck) := h.map
    rw [hm] at hc; cases hc
  · obtain ⟨A, c, cs, f1, f2, f3, f4⟩ := h.fnd
    have hm : w.heap[bB]? = some (.map (ents es) ck) := h.map
    rw [e, f1] at hm; cases hm
/-- Another map. -/
theorem WalkAt.setMap (h : WalkAt w0 bf bB w ts es ck r) (es' : List (Pl.Place × Nat)) (ck' : Nat) : WalkAt w0 bf bB (setMap w bB es' ck') ts es' ck' r ∧ KeptN bf bB r w (setMap w bB es' ck') := by
  obtain ⟨hBr, hBf⟩ := h.mapNe
  have hk : ∀ k, k ≠ bB → (Go.Proofs.YtpbjpochjagicaaGreatDoorRR.setMap w bB es' ck').heap[k]? = w.heap[k]? := fun k hk => setMap_far es' ck' hk
  obtain ⟨A, c, cs, f1, f2, f3, f4⟩ := h.fnd
  have hs := size_setMap w bB es' ck'
  refine ⟨⟨h.os, h.tape, h.output, by rw [hs]; exact h.size, fun k k1 k2 k3 => (hk k k3).trans (h.old k k1 k2 k3), ⟨A, c, cs, (hk bf (Ne.symm hBf)).trans f1, ⟨f2.1, ?_⟩, f3.keep (fun b _ h2 => ⟨h2, hk b (fun e => h2 (.inr (.inl e)))⟩), f4⟩,
    setMap_is h.map.lt es' ck', fun k e => by rw [hs]; exact h.hr k e⟩, ⟨by rw [hs]; exact Nat.le_refl _, fun k _ _ k2 _ => hk k k2⟩⟩
  rcases f2.2 with h2 | ⟨g, cap, cur, hv, hg, hh, rr⟩
  · exact .inl h2
  · refine .inr ⟨g, cap, cur, hv, hg, (hk g (fun e => ?_)).trans hh, rr⟩
    subst e
    have hm : w.heap[g]? = some (.map (ents es) ck) := h.map
    rw [hm] at hh; cases hh
theorem IntsN.kept {w' : World} {r' : Option Nat} {A : Option Addr} {xs : List Int} {H : Nat} (h : IntsN w (Sx bf bB r) A xs) (hk : KeptN bf bB r w w') (hr : RowOk H r r') (hH : w.heap.size ≤ H) : IntsN w' (Sx bf bB r') A xs :=
  h.keep (fun b h1 h2 => by
    refine ⟨?_, hk.block b h1 (fun e => h2 (.inl e)) (fun e => h2 (.inr (.inl e))) (fun e => h2 (.inr (.inr e)))⟩
    rintro (h3 | h3 | h3)
    · exact h2 (.inl h3)
    · exact h2 (.inr (.inl h3))
    · rcases hr with rfl | ⟨q, rfl, hq⟩
      · exact h2 (.inr (.inr h3))
      · injection h3 with h3; omega)
end

/-- What is found on from line number i. -/
def dfsAt (n : Pl.Nt) (r : Pl.Place → Nat → Pl.Place × Bool × Int) (ds : Int) (f : Nat) (met : List Pl.Place) (p : Pl.Place) (t : Pl.Trip) (i : Nat) : List Pl.Trip :=
  if (r p i).2.2 ≠ 0 ∨ (r p i).1 ∈ met ++ [p] then []
  else Pl.dfs n r ds f (met ++ [p]) (r p i).1 ⟨t.way ++ [(i : Int)], t.km + (n.tracks.getD i default).km, t.changes + if (r p i).2.1 then 1 else 0⟩
def dfsTo (n : Pl.Nt) (r : Pl.Place → Nat → Pl.Place × Bool × Int) (ds : Int) (f : Nat) (met : List Pl.Place) (p : Pl.Place) (t : Pl.Trip) (k : Nat) : List Pl.Trip := (List.range k).flatMap (dfsAt n r ds f met p t)
theorem dfs_to {n : Pl.Nt} {r : Pl.Place → Nat → Pl.Place × Bool × Int} {ds : Int} {f : Nat} {met : List Pl.Place} {p : Pl.Place} {t : Pl.Trip} (h : p.1 ≠ ds) : Pl.dfs n r ds (f + 1) met p t = dfsTo n r ds f met p t n.tracks.length := by
  rw [Pl.dfs, if_neg h]; rfl
theorem dfs_here {n : Pl.Nt} {r : Pl.Place → Nat → Pl.Place × Bool × Int} {ds : Int} {f : Nat} {met : List Pl.Place} {p : Pl.Place} {t : Pl.Trip} (h : p.1 = ds) : Pl.dfs n r ds (f + 1) met p t = [t] := by
  rw [Pl.dfs, if_pos h]
theorem dfsTo_succ (n : Pl.Nt) (r : Pl.Place → Nat → Pl.Place × Bool × Int) (ds : Int) (f : Nat) (met : List Pl.Place) (p : Pl.Place) (t : Pl.Trip) (k : Nat) : dfsTo n r ds f met p t (k + 1) = dfsTo n r ds f met p t k ++ dfsAt n r ds f met p t k := by
  simp [dfsTo, List.range_succ, List.flatMap_append]
theorem dfsTo_le (n : Pl.Nt) (r : Pl.Place → Nat → Pl.Place × Bool × Int) (ds : Int) (f : Nat) (met : List Pl.Place) (p : Pl.Place) (t : Pl.Trip) {k m : Nat} (h : k ≤ m) : (dfsTo n r ds f met p t k).length ≤ (dfsTo n r ds f met p t m).length := by
  induction m with
  | zero => obtain rfl : k = 0 := by omega
            exact Nat.le_refl _
  | succ m ih =>
    rcases Nat.lt_or_ge m k with h1 | h1
    · obtain rfl : k = m + 1 := by omega
      exact Nat.le_refl _
    · rw [dfsTo_succ, List.length_append]; have := ih h1; omega
theorem dfsAt_skip {n : Pl.Nt} {r : Pl.Place → Nat → Pl.Place × Bool × Int} {ds : Int} {f : Nat} {met : List Pl.Place} {p : Pl.Place} {t : Pl.Trip} {i : Nat} (h : (r p i).2.2 ≠ 0 ∨ (r p i).1 ∈ met ++ [p]) : dfsAt n r ds f met p t i = [] := by rw [dfsAt, if_pos h]
theorem dfsAt_go {n : Pl.Nt} {r : Pl.Place → Nat → Pl.Place × Bool × Int} {ds : Int} {f : Nat} {met : List Pl.Place} {p : Pl.Place} {t : Pl.Trip} {i : Nat} (h : ¬ ((r p i).2.2 ≠ 0 ∨ (r p i).1 ∈ met ++ [p])) :
    dfsAt n r ds f met p t i = Pl.dfs n r ds f (met ++ [p]) (r p i).1 ⟨t.way ++ [(i : Int)], t.km + (n.tracks.getD i default).km, t.changes + if (r p i).2.1 then 1 else 0⟩ := by rw [dfsAt, if_neg h]
end Go.Proofs.YtpbjpochjagicaaGreatDoorRR
