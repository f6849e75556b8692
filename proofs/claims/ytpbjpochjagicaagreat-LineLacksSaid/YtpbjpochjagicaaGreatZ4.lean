/- Walks: trips, the reference's best trip to each place (by gen_trips.py). -/
import Derived.Test.YtpbjpochjagicaaGreatZ1
import Derived.Test.YtpbjpochjagicaaGreatW88
import Derived.Test.YtpbjpochjagicaaGreatFl
import Derived.Deep.DeepCutAuto
import Derived.Deep.LoopGhost
import Derived.BigQuiet
namespace Go.Proofs.YtpbjpochjagicaaGreat
open Go.RowKit

/-- The world as the rounds hold it: the boxes of net and car, and the trips. -/
structure TrSt (w wr : World) (n : Pl.Nt) (n_tA n_sA : Option Addr) (n_tc n_sc : Nat) (c : Pl.Cch) (c_gA c_bA c_hA : Option Addr) (c_gc c_bc c_hc : Nat) (ls : List Tc) : Prop where
  below : Below w.heap.size w wr
  bn : wr.heap[w.heap.size]? = some (.cells #[.int .i64 n.stops, .slice n_tA n.tracks.length n_tc, .slice n_sA n.shops.length n_sc] 25 (0, 0))
  bc : wr.heap[w.heap.size + 1]? = some (.cells #[.slice c_gA c.gauges.length c_gc, .int .i64 c.size, .int .i64 c.load, .slice c_bA c.brakes.length c_bc, .slice c_hA c.heats.length c_hc, .bool c.hooks] 27 (0, 0))
  trips : TcsAt wr (w.heap.size + 3) ls
  len : ls.length = 24
  wl : ∀ x ∈ ls, (tWay x.t).length ≤ 1000
section
variable {w wr w' : World} {n : Pl.Nt} {n_tA n_sA : Option Addr} {n_tc n_sc : Nat} {c : Pl.Cch} {c_gA c_bA c_hA : Option Addr} {c_gc c_bc c_hc : Nat} {ls : List Tc}
theorem TrSt.step (h : TrSt w wr n n_tA n_sA n_tc n_sc c c_gA c_bA c_hA c_gc c_bc c_hc ls) (hb : Below wr.heap.size wr w') : TrSt w w' n n_tA n_sA n_tc n_sc c c_gA c_bA c_hA c_gc c_bc c_hc ls :=
  ⟨h.below.trans (hb.mono h.below.size), blk_below h.bn hb (lt_of_block h.bn), blk_below h.bc hb (lt_of_block h.bc), h.trips.below hb, h.len, h.wl⟩
theorem TrSt.lt (h : TrSt w wr n n_tA n_sA n_tc n_sc c c_gA c_bA c_hA c_gc c_bc c_hc ls) : w.heap.size + 3 < wr.heap.size := lt_of_block h.trips.blk
theorem TrSt.nreads (h : TrSt w wr n n_tA n_sA n_tc n_sc c c_gA c_bA c_hA c_gc c_bc c_hc ls) (hn : NReads w w.heap.size n n_tA n_sA n_tc n_sc) : NReads wr wr.heap.size n n_tA n_sA n_tc n_sc := (hn.below h.below).more h.below.size
theorem TrSt.creads (h : TrSt w wr n n_tA n_sA n_tc n_sc c c_gA c_bA c_hA c_gc c_bc c_hc ls) (hr : CReads w w.heap.size c c_gA c_bA c_hA c_gc c_bc c_hc) : CReads wr wr.heap.size c c_gA c_bA c_hA c_gc c_bc c_hc := (hr.below h.below).more h.below.size
theorem TrSt.ints (h : TrSt w wr n n_tA n_sA n_tc n_sc c c_gA c_bA c_hA c_gc c_bc c_hc ls) {A : Option Addr} {l : List Int} (hr : Ints w w.heap.size A l) : Ints wr wr.heap.size A l := (hr.below h.below).more h.below.size
theorem TrSt.ncells (h : TrSt w wr n n_tA n_sA n_tc n_sc c c_gA c_bA c_hA c_gc c_bc c_hc ls) : wr.cell? ⟨w.heap.size, 0, none⟩ = some (.int .i64 n.stops) ∧ wr.cell? ⟨w.heap.size, 1, none⟩ = some (.slice n_tA n.tracks.length n_tc) ∧ wr.cell? ⟨w.heap.size, 2, none⟩ = some (.slice n_sA n.shops.length n_sc) :=
  ⟨blk_cell h.bn 0, blk_cell h.bn 1, blk_cell h.bn 2⟩
theorem TrSt.ccells (h : TrSt w wr n n_tA n_sA n_tc n_sc c c_gA c_bA c_hA c_gc c_bc c_hc ls) : wr.cell? ⟨w.heap.size + 1, 0, none⟩ = some (.slice c_gA c.gauges.length c_gc) ∧ wr.cell? ⟨w.heap.size + 1, 1, none⟩ = some (.int .i64 c.size) ∧ wr.cell? ⟨w.heap.size + 1, 2, none⟩ = some (.int .i64 c.load) ∧
    wr.cell? ⟨w.heap.size + 1, 3, none⟩ = some (.slice c_bA c.brakes.length c_bc) ∧ wr.cell? ⟨w.heap.size + 1, 4, none⟩ = some (.slice c_hA c.heats.length c_hc) ∧ wr.cell? ⟨w.heap.size + 1, 5, none⟩ = some (.bool c.hooks) :=
  ⟨blk_cell h.bc 0, blk_cell h.bc 1, blk_cell h.bc 2, blk_cell h.bc 3, blk_cell h.bc 4, blk_cell h.bc 5⟩
/-- Trip number k, its cells by letters. -/
theorem TrSt.pick (h : TrSt w wr n n_tA n_sA n_tc n_sc c c_gA c_bA c_hA c_gc c_bc c_hc ls) {k : Nat} (hk : k < 24) : ∃ (yt : Option Pl.Trip) (yA : Option Addr) (yc : Nat), ls[k]? = some ⟨yt, yA, yc⟩ ∧ (ls.map Tc.t)[k]? = some yt ∧ (tWay yt).length ≤ 1000 ∧
    (wr.cell? ⟨w.heap.size + 3, k * 4, none⟩ = some (.bool yt.isSome) ∧ wr.cell? ⟨w.heap.size + 3, k * 4 + 1, none⟩ = some (.int .i64 (tKm yt)) ∧ wr.cell? ⟨w.heap.size + 3, k * 4 + 2, none⟩ = some (.int .i64 (tCh yt)) ∧ wr.cell? ⟨w.heap.size + 3, k * 4 + 3, none⟩ = some (.slice yA (tWay yt).length yc)) ∧
    IntsN wr (fun b => b = w.heap.size + 3) yA (tWay yt) := by
  have hkl : k < ls.length := by rw [h.len]; exact hk
  obtain ⟨y, hy⟩ : ∃ y, ls[k]? = some y := ⟨_, List.getElem?_eq_getElem hkl⟩
  obtain ⟨yt, yA, yc⟩ := y
  have hm := List.mem_of_getElem? hy
  obtain ⟨a0, a1, a2, a3, _⟩ := h.trips.pick hy
  exact ⟨yt, yA, yc, hy, by rw [List.getElem?_map, hy]; rfl, h.wl _ hm, ⟨a0, a1, a2, a3⟩, h.trips.ways _ hm⟩
theorem TrSt.put (h : TrSt w wr n n_tA n_sA n_tc n_sc c c_gA c_bA c_hA c_gc c_bc c_hc ls) {k : Nat} (hk : k < 24) (x : Tc) (hI : IntsN wr (fun b => b = w.heap.size + 3) x.A (tWay x.t)) (hl : (tWay x.t).length ≤ 1000) :
    TrSt w ((((wr.setCell ⟨w.heap.size + 3, k * 4, none⟩ (.bool x.t.isSome)).setCell ⟨w.heap.size + 3, k * 4 + 1, none⟩ (.int .i64 (tKm x.t))).setCell ⟨w.heap.size + 3, k * 4 + 2, none⟩ (.int .i64 (tCh x.t))).setCell ⟨w.heap.size + 3, k * 4 + 3, none⟩ (.slice x.A (tWay x.t).length x.c)) n n_tA n_sA n_tc n_sc c c_gA c_bA c_hA c_gc c_bc c_hc (ls.set k x) := by
  have ho : ∀ (b : Nat), b ≠ w.heap.size + 3 → ((((wr.setCell ⟨w.heap.size + 3, k * 4, none⟩ (.bool x.t.isSome)).setCell ⟨w.heap.size + 3, k * 4 + 1, none⟩ (.int .i64 (tKm x.t))).setCell ⟨w.heap.size + 3, k * 4 + 2, none⟩ (.int .i64 (tCh x.t))).setCell ⟨w.heap.size + 3, k * 4 + 3, none⟩ (.slice x.A (tWay x.t).length x.c)).heap[b]? = wr.heap[b]? := fun b hb => by
    rw [Below.heap_setCell _ _ _ _ hb, Below.heap_setCell _ _ _ _ hb, Below.heap_setCell _ _ _ _ hb, Below.heap_setCell _ _ _ _ hb]
  have hB : w.heap.size ≤ w.heap.size + 3 := by omega
  refine ⟨(((h.below.setCell (p := ⟨w.heap.size + 3, k * 4, none⟩) hB _).setCell (p := ⟨w.heap.size + 3, k * 4 + 1, none⟩) hB _).setCell (p := ⟨w.heap.size + 3, k * 4 + 2, none⟩) hB _).setCell (p := ⟨w.heap.size + 3, k * 4 + 3, none⟩) hB _,
    (ho _ (by omega)).trans h.bn, (ho _ (by omega)).trans h.bc, h.trips.put (by rw [h.len]; exact hk) x hI, by rw [List.length_set]; exact h.len, fun y hy => ?_⟩
  rcases List.mem_or_eq_of_mem_set hy with hy | rfl
  · exact h.wl y hy
  · exact hl
/-- What is behind the trips stays when one is put. -/
theorem put_other (wr : World) (g k : Nat) (a b c d : Value) (q : Nat) (hq : q ≠ g) : ((((wr.setCell ⟨g, k * 4, none⟩ a).setCell ⟨g, k * 4 + 1, none⟩ b).setCell ⟨g, k * 4 + 2, none⟩ c).setCell ⟨g, k * 4 + 3, none⟩ d).heap[q]? = wr.heap[q]? := by
  rw [Below.heap_setCell _ _ _ _ hq, Below.heap_setCell _ _ _ _ hq, Below.heap_setCell _ _ _ _ hq, Below.heap_setCell _ _ _ _ hq]
end
def zeroTc : Tc := ⟨none, none, 0⟩
def zeros24 : Array Value := ((List.replicate 24 zeroTc).flatMap tcCells).toArray
theorem make24 (w : World) : (Instr.makeSlice 97 (.int .i64 24) (.int .i64 24)).run Tryz.prog w = .ok (.slice (some ⟨w.heap.size, 0, none⟩) 24 24) (w.alloc (.cells zeros24 100)) := by kernel_rfl
theorem trips_zero {w : World} {g : Nat} (h : w.heap[g]? = some (.cells zeros24 100 (0, 0))) : TcsAt w g (List.replicate 24 zeroTc) :=
  ⟨h, fun x hx => by
    rw [List.eq_of_mem_replicate hx]
    exact IntsN.nil _ _ _⟩
theorem rbetter_lit (sw : List Int) (L : Nat) (hL : sw.length = L) (sk sc : Int) (sA : Option Addr) (sp : Nat) (yt : Option Pl.Trip) (yA : Option Addr) (yc : Nat) (w : World) (hx : Ints w w.heap.size sA sw) (hy : Ints w w.heap.size yA (tWay yt)) (lx : L ≤ 1000) (ly : (tWay yt).length ≤ 1000) :
    Calls Tryz.prog 89 #[.agg #[.bool true, .int .i64 sk, .int .i64 sc, .slice sA L sp], .agg #[.bool yt.isSome, .int .i64 (tKm yt), .int .i64 (tCh yt), .slice yA (tWay yt).length yc]] w fun e w' => e = .returned (.bool (Pl.beats ⟨sw, sk, sc⟩ yt)) ∧ Below w.heap.size w w' := by
  subst hL
  exact rbetter_any ⟨some ⟨sw, sk, sc⟩, sA, sp⟩ ⟨yt, yA, yc⟩ w hx hy lx ly
def Z100o : Obj := .cells #[.bool false, .int .i64 0, .int .i64 0, .slice none 0 0] 100 (0, 0)
/-- A row that has something keeps it where no block with cells turns. -/
theorem own_same {w w' : World} {base : Nat} {A : Option Addr} {c : Nat} {xs : List Int} (h : OwnInts w base A c xs) (hne : xs ≠ []) (hk : ∀ (b : Nat) (cs : Array Value) (t : TypeId), w.heap[b]? = some (.cells cs t (0, 0)) → cs.size ≠ 0 → w'.heap[b]? = w.heap[b]?) : OwnInts w' base A c xs := by
  have h0 := h
  refine ⟨h.1, ?_⟩
  rcases h.2 with h2 | ⟨g, cap, cur, hv, hb, hh, r⟩
  · exact .inl h2
  · refine .inr ⟨g, cap, cur, hv, hb, (hk g cur 3 hh (fun e => ?_)).trans hh, r⟩
    obtain ⟨x, l, rfl⟩ := List.exists_cons_of_ne_nil hne
    have hI := IntsN.of_own (S := fun _ => False) h0 (fun _ _ e => e)
    obtain ⟨b, off, hA, _, _, hc⟩ := hI 0 x rfl
    injection hv with hv _ _
    rw [hv] at hA
    injection hA with hA
    injection hA with h1 h2 _
    subst h1 h2
    rw [blk_cell hh] at hc
    rw [Array.getElem?_eq_none (by omega)] at hc
    cases hc
theorem int_row2 {w : World} {base : Nat} {A : Option Addr} {c : Nat} {xs : List Int} (h : OwnInts w base A c xs) : ∀ k, (Value.slice A xs.length c).ownBlock = some k → ∃ cur, w.heap[k]? = some (.cells cur 3 (0, 0)) := fun k e => by
  rcases h.2 with ⟨hv, _⟩ | ⟨q, cap, cur, hv, hb, hh, _⟩
  · injection hv with hv _ _; subst hv; simp [Value.ownBlock] at e
  · injection hv with hv _ _
    subst hv
    simp [Value.ownBlock] at e
    subst e
    exact ⟨cur, hh⟩
theorem own_any (A : Option Addr) (k k' c : Nat) : (Value.slice A k c).ownBlock = (Value.slice A k' c).ownBlock := by cases A <;> rfl
theorem own_again {w : World} {base : Nat} {A : Option Addr} {c : Nat} {xs : List Int} (h : OwnInts w base A c xs) (k : Nat) : OwnInts (w.drewN k) base A c xs := own_below h (below_again (Below.refl w.heap.size w) k) (Nat.le_refl _)
/-- What the operations leave that make a trip. -/
def TkF (H : Nat) (way : List Int) (m km ch : Int) (j : Nat) (v : Value) (W : World) : Prop :=
  (j = 11 → ∃ q, v = .slice (some ⟨q, 0, none⟩) 0 0 ∧ W.heap[q]? = some (.cells #[] 3 (0, 0)) ∧ OwnInts W H (some ⟨q, 0, none⟩) 0 []) ∧
  (j = 14 → ∃ A c, v = .slice A way.length c ∧ OwnInts W H A c way) ∧
  (j = 16 → ∃ q, v = .slice (some ⟨q, 0, none⟩) 1 1 ∧ W.heap[q]? = some (.cells #[.int .i64 m] 3 (0, 0))) ∧
  (j = 17 → ∃ A c, v = .slice A (way.length + 1) c ∧ OwnInts W H A c (way ++ [m])) ∧
  (j = 18 → ∃ A c, v = .agg #[.bool true, .int .i64 km, .int .i64 ch, .slice A (way.length + 1) c] ∧ OwnInts W H A c (way ++ [m])) ∧
  (j = 19 → ∃ P2, v = .pointer (some ⟨P2, 0, none⟩) ∧ H ≤ P2 ∧ W.heap[P2]? = some Z100o)
section
variable {H : Nat} {way : List Int} {m km ch : Int} {j : Nat} {v : Value} {W W' : World}
theorem TkF.step (hb : Below W.heap.size W W') (h : TkF H way m km ch j v W) : TkF H way m km ch j v W' :=
  ⟨fun e => by obtain ⟨q, h0, h1, h2⟩ := h.1 e; exact ⟨q, h0, (hb.block q (lt_of_block h1)).trans h1, own_below h2 hb (Nat.le_refl _)⟩,
   fun e => by obtain ⟨a, c, h0, h1⟩ := h.2.1 e; exact ⟨a, c, h0, own_below h1 hb (Nat.le_refl _)⟩,
   fun e => by obtain ⟨q, h0, h1⟩ := h.2.2.1 e; exact ⟨q, h0, (hb.block q (lt_of_block h1)).trans h1⟩,
   fun e => by obtain ⟨a, c, h0, h1⟩ := h.2.2.2.1 e; exact ⟨a, c, h0, own_below h1 hb (Nat.le_refl _)⟩,
   fun e => by obtain ⟨a, c, h0, h1⟩ := h.2.2.2.2.1 e; exact ⟨a, c, h0, own_below h1 hb (Nat.le_refl _)⟩,
   fun e => by obtain ⟨p, h0, h1, h2⟩ := h.2.2.2.2.2 e; exact ⟨p, h0, h1, (hb.block p (lt_of_block h2)).trans h2⟩⟩
theorem TkF.m11 (h : ∃ q, v = .slice (some ⟨q, 0, none⟩) 0 0 ∧ W.heap[q]? = some (.cells #[] 3 (0, 0)) ∧ OwnInts W H (some ⟨q, 0, none⟩) 0 []) : TkF H way m km ch 11 v W := ⟨fun _ => h, fun e => absurd e (by decide), fun e => absurd e (by decide), fun e => absurd e (by decide), fun e => absurd e (by decide), fun e => absurd e (by decide)⟩
theorem TkF.m14 (h : ∃ A c, v = .slice A way.length c ∧ OwnInts W H A c way) : TkF H way m km ch 14 v W := ⟨fun e => absurd e (by decide), fun _ => h, fun e => absurd e (by decide), fun e => absurd e (by decide), fun e => absurd e (by decide), fun e => absurd e (by decide)⟩
theorem TkF.m16 (h : ∃ q, v = .slice (some ⟨q, 0, none⟩) 1 1 ∧ W.heap[q]? = some (.cells #[.int .i64 m] 3 (0, 0))) : TkF H way m km ch 16 v W := ⟨fun e => absurd e (by decide), fun e => absurd e (by decide), fun _ => h, fun e => absurd e (by decide), fun e => absurd e (by decide), fun e => absurd e (by decide)⟩
theorem TkF.m17 (h : ∃ A c, v = .slice A (way.length + 1) c ∧ OwnInts W H A c (way ++ [m])) : TkF H way m km ch 17 v W := ⟨fun e => absurd e (by decide), fun e => absurd e (by decide), fun e => absurd e (by decide), fun _ => h, fun e => absurd e (by decide), fun e => absurd e (by decide)⟩
theorem TkF.m18 (h : ∃ A c, v = .agg #[.bool true, .int .i64 km, .int .i64 ch, .slice A (way.length + 1) c] ∧ OwnInts W H A c (way ++ [m])) : TkF H way m km ch 18 v W := ⟨fun e => absurd e (by decide), fun e => absurd e (by decide), fun e => absurd e (by decide), fun e => absurd e (by decide), fun _ => h, fun e => absurd e (by decide)⟩
theorem TkF.m19 (h : ∃ P2, v = .pointer (some ⟨P2, 0, none⟩) ∧ H ≤ P2 ∧ W.heap[P2]? = some Z100o) : TkF H way m km ch 19 v W := ⟨fun e => absurd e (by decide), fun e => absurd e (by decide), fun e => absurd e (by decide), fun e => absurd e (by decide), fun e => absurd e (by decide), fun _ => h⟩
/-- What a step does to memory: an append may write into its own row. -/
def TkSt (e : Nat) (W W' : World) : Prop :=
  if e = 14 then (∀ (b : Nat) (cs : Array Value) (t : TypeId), W.heap[b]? = some (.cells cs t (0, 0)) → cs.size ≠ 0 → W'.heap[b]? = W.heap[b]?)
  else if e = 17 then (∀ (b : Nat) (cs : Array Value) (t : TypeId), W.heap[b]? = some (.cells cs t (0, 0)) → t ≠ 3 → W'.heap[b]? = W.heap[b]?) else Below W.heap.size W W'
/-- Number's operation and the cell's address (where a trip is put). -/
def NmF (g N : Nat) (j : Nat) (v : Value) (_ : World) : Prop := (j = 2 → v = .int .i64 (N : Int)) ∧ (j = 4 → v = .pointer (some ⟨g, N * 4, none⟩))
end

set_option maxRecDepth 100000 in
set_option maxHeartbeats 40000000 in
theorem trips_any (n : Pl.Nt) (n_tA n_sA : Option Addr) (n_tc n_sc : Nat) (c : Pl.Cch) (c_gA c_bA c_hA : Option Addr) (c_gc c_bc c_hc : Nat) (rA : Option Addr) (reb : List Int) (rc : Nat) (but fr g : Int) (w : World) (hn : NReads w w.heap.size n n_tA n_sA n_tc n_sc) (hr : CReads w w.heap.size c c_gA c_bA c_hA c_gc c_bc c_hc) (hreb : Ints w w.heap.size rA reb) (hrl : reb.length ≤ 140737488355328) (hck : Pl.check n = 0) (hp0 : ((fr, g) : Pl.Place) ∈ Pl.spots) :
    Calls Tryz.prog 57 #[.agg #[.int .i64 n.stops, .slice n_tA n.tracks.length n_tc, .slice n_sA n.shops.length n_sc], .agg #[.slice c_gA c.gauges.length c_gc, .int .i64 c.size, .int .i64 c.load, .slice c_bA c.brakes.length c_bc, .slice c_hA c.heats.length c_hc, .bool c.hooks], .slice rA reb.length rc, .int .i64 but, .agg #[.int .i64 fr, .int .i64 g]] w fun e w' => ∃ ls : List Tc, e = .returned (.slice (some ⟨w.heap.size + 3, 0, none⟩) 24 24) ∧ TcsAt w' (w.heap.size + 3) ls ∧ ls.length = 24 ∧ (∀ x ∈ ls, (tWay x.t).length ≤ 1000) ∧
      Pl.Cells n (Pl.stepB n c reb but) (fr, g) n.tracks.length Pl.spots (ls.map Tc.t) ∧ Pl.Still n (Pl.stepB n c reb but) n.tracks.length Pl.spots (ls.map Tc.t) ∧ Below w.heap.size w w' := by
  have hps := Pl.mem_spots.1 hp0
  have hfr0 : 0 ≤ fr := hps.1
  have hfr5 : fr ≤ 5 := hps.2.1
  have hg1 : 1 ≤ g := hps.2.2.1
  have hg3 : g ≤ 3 := hps.2.2.2
  have hst6 := check_stops hck
  have ht8 := (check_tracks hck).1
  have HF := Lib.hid (fine_spots (c := c) (reb := reb) (but := but) hck hp0)
  have HK99 : Hid (∀ i, i < n.tracks.length → (n.tracks.getD i default).km ≤ 99) := fun i hi => (trk_at hck hi).km1
  have HSTL : Hid (∀ (L0 L : List (Option Pl.Trip)) (ga : Int) (i : Nat), Pl.Rnd n (Pl.stepB n c reb but) (fr, g) n.tracks.length Pl.spots L0 (Pl.Before n.stops ga i) L false → Pl.Still n (Pl.stepB n c reb but) n.tracks.length Pl.spots L) := fun L0 L ga i h => round_still hck h
  have HON : Hid (∀ (p : Pl.Place) (i : Nat), (i : Int) ≠ but → Pl.stepB n c reb but p i = Pl.run n c reb p i) := fun p i h => Pl.stepB_on h
  have HBUT : Hid (∀ (p : Pl.Place) (i : Nat), (i : Int) = but → (Pl.stepB n c reb but p i).2.2 ≠ 0) := fun p i h => Pl.stepB_but h
  have HTK : Hid (∀ i, i < n.tracks.length → TrkOk n.stops (n.tracks.getD i default)) := fun i hi => trk_at hck hi
  have HRE : Hid (∀ (p : Pl.Place) (i : Nat), (Pl.run n c reb p i).2.2 = 0 → (p.1 = (n.tracks.getD i default).a ∨ p.1 = (n.tracks.getD i default).b) ∧ (Pl.run n c reb p i).1.1 = (if p.1 = (n.tracks.getD i default).a then (n.tracks.getD i default).b else (n.tracks.getD i default).a) ∧
      ((Pl.run n c reb p i).1.2 = p.2 ∨ (Pl.run n c reb p i).1.2 = (n.tracks.getD i default).gauge) ∧ (Pl.run n c reb p i).2.1 = decide ((Pl.run n c reb p i).1.2 ≠ p.2)) := fun p i h => Pl.run_end h
  have HRV0 : Hid (∀ (p : Pl.Place) (i : Nat), rrunVal (rrunOf p (Pl.run n c reb p i)) = if (Pl.run n c reb p i).2.2 = 0 then .tuple #[.agg #[.int .i64 (Pl.run n c reb p i).1.1, .int .i64 (Pl.run n c reb p i).1.2], .int .i64 0] else .tuple #[.agg #[.int .i64 p.1, .int .i64 p.2], .int .i64 (Pl.run n c reb p i).2.2]) := fun p i => by
    by_cases h : (Pl.run n c reb p i).2.2 = 0
    · rw [rrun_ok h, if_pos h]; rfl
    · rw [rrun_no h, if_neg h]; rfl
  have HN := Lib.hid hn
  have HR := Lib.hid hr
  have HRB := Lib.hid hreb
  clear hn hr hreb hck hps
  obtain ⟨R, hR⟩ : ∃ R, Pl.stepB n c reb but = R := ⟨_, rfl⟩
  rw [hR] at HF HSTL HON HBUT ⊢
  have HRR := Lib.hid hR
  clear hR
  obtain ⟨N0, hN0⟩ : ∃ N0, Pl.numOf (fr, g) = N0 := ⟨_, rfl⟩
  have hN0i := num_int hfr0 (by omega : 0 ≤ g)
  rw [hN0] at hN0i
  have hN24 : N0 < 24 := by omega
  have hN24i : (N0 : Int) < 24 := by omega
  have HN0 := Lib.hid hN0
  clear hN0 hN0i
  have hnew3 : ∀ o1 o2 o3 : Obj, Below w.heap.size w (((w.alloc o1).alloc o2).alloc o3) := fun o1 o2 o3 => (((Below.refl _ _).alloc (Nat.le_refl _) _).alloc (by simp) _).alloc (by simp; omega) _
  have hT0 : Hid (TrSt w ((((w.alloc (.cells #[.int .i64 n.stops, .slice n_tA n.tracks.length n_tc, .slice n_sA n.shops.length n_sc] 25)).alloc (.cells #[.slice c_gA c.gauges.length c_gc, .int .i64 c.size, .int .i64 c.load, .slice c_bA c.brakes.length c_bc, .slice c_hA c.heats.length c_hc, .bool c.hooks] 27)).alloc (.cells #[.int .i64 fr, .int .i64 g] 83)).alloc (.cells zeros24 100)) n n_tA n_sA n_tc n_sc c c_gA c_bA c_hA c_gc c_bc c_hc (List.replicate 24 zeroTc)) :=
    ⟨(hnew3 _ _ _).alloc (by simp; omega) _, blk_alloc (blk_alloc (blk_alloc (heap_alloc_new _ _) _) _) _, blk_alloc (blk_alloc (by simpa using heap_alloc_new (w.alloc (.cells #[.int .i64 n.stops, .slice n_tA n.tracks.length n_tc, .slice n_sA n.shops.length n_sc] 25)) (.cells #[.slice c_gA c.gauges.length c_gc, .int .i64 c.size, .int .i64 c.load, .slice c_bA c.brakes.length c_bc, .slice c_hA c.heats.length c_hc, .bool c.hooks] 27)) _) _,
      trips_zero (by simpa using heap_alloc_new (((w.alloc (.cells #[.int .i64 n.stops, .slice n_tA n.tracks.length n_tc, .slice n_sA n.shops.length n_sc] 25)).alloc (.cells #[.slice c_gA c.gauges.length c_gc, .int .i64 c.size, .int .i64 c.load, .slice c_bA c.brakes.length c_bc, .slice c_hA c.heats.length c_hc, .bool c.hooks] 27)).alloc (.cells #[.int .i64 fr, .int .i64 g] 83)) (.cells zeros24 100)), List.length_replicate, fun x hx => by rw [List.eq_of_mem_replicate hx]; simp [zeroTc, tWay]⟩
  have hF0 : Hid (((((w.alloc (.cells #[.int .i64 n.stops, .slice n_tA n.tracks.length n_tc, .slice n_sA n.shops.length n_sc] 25)).alloc (.cells #[.slice c_gA c.gauges.length c_gc, .int .i64 c.size, .int .i64 c.load, .slice c_bA c.brakes.length c_bc, .slice c_hA c.heats.length c_hc, .bool c.hooks] 27)).alloc (.cells #[.int .i64 fr, .int .i64 g] 83)).alloc (.cells zeros24 100)).heap[w.heap.size + 2]? = some (.cells #[.int .i64 fr, .int .i64 g] 83 (0, 0))) := blk_alloc (by simpa using heap_alloc_new ((w.alloc (.cells #[.int .i64 n.stops, .slice n_tA n.tracks.length n_tc, .slice n_sA n.shops.length n_sc] 25)).alloc (.cells #[.slice c_gA c.gauges.length c_gc, .int .i64 c.size, .int .i64 c.load, .slice c_bA c.brakes.length c_bc, .slice c_hA c.heats.length c_hc, .bool c.hooks] 27)) (.cells #[.int .i64 fr, .int .i64 g] 83)) _
  clear hnew3
  have hmk := make24
  obtain ⟨w4, hw4⟩ : ∃ w4, w4 = ((((w.alloc (.cells #[.int .i64 n.stops, .slice n_tA n.tracks.length n_tc, .slice n_sA n.shops.length n_sc] 25)).alloc (.cells #[.slice c_gA c.gauges.length c_gc, .int .i64 c.size, .int .i64 c.load, .slice c_bA c.brakes.length c_bc, .slice c_hA c.heats.length c_hc, .bool c.hooks] 27)).alloc (.cells #[.int .i64 fr, .int .i64 g] 83)).alloc (.cells zeros24 100)) := ⟨_, rfl⟩
  rw [← hw4] at hT0 hF0
  have HW4 := Lib.hid hw4
  clear hw4
  have HC0 := Lib.hid (Pl.Cells.start HF.out)
  rw [HN0.out] at HC0
  go_enter Tryz.func57, Tryz.ntmps57
  go_upto_region 2 with fail
  rw [← HW4.out, show w.heap.size + 1 + 1 + 1 = w.heap.size + 3 from rfl, show w.heap.size + 1 + 1 = w.heap.size + 2 from rfl]
  have f0 := blk_cell hF0.out 0
  have f1 := blk_cell hF0.out 1
  clear hmk
  go_wp2_with (go_at_call 87; refine (number_any fr g _ hfr0 hfr5 (by omega) hg3).mono ?_; rintro e w5 ⟨rfl, hb5⟩; rw [HN0.out]; have HT5 := Lib.hid (hT0.out.step hb5); obtain ⟨yt, yA, yc, -, -, -, ⟨z0, z1, z2, z3⟩, -⟩ := HT5.out.pick hN24; have zf0 := tc_frozen HT5.out.trips (N0 * 4); have zf1 := tc_frozen HT5.out.trips (N0 * 4 + 1); have zf2 := tc_frozen HT5.out.trips (N0 * 4 + 2); have zf3 := tc_frozen HT5.out.trips (N0 * 4 + 3); clear hb5 f0 f1)
  obtain ⟨w6, hw6⟩ : ∃ w6, w6 = ((((w5.setCell ⟨w.heap.size + 3, N0 * 4, none⟩ (.bool true)).setCell ⟨w.heap.size + 3, N0 * 4 + 1, none⟩ (.int .i64 0)).setCell ⟨w.heap.size + 3, N0 * 4 + 2, none⟩ (.int .i64 0)).setCell ⟨w.heap.size + 3, N0 * 4 + 3, none⟩ (.slice none 0 0)) := ⟨_, rfl⟩
  rw [← hw6]
  have HT6 : Hid (TrSt w w6 n n_tA n_sA n_tc n_sc c c_gA c_bA c_hA c_gc c_bc c_hc ((List.replicate 24 zeroTc).set N0 ⟨some ⟨[], 0, 0⟩, none, 0⟩)) := by
    rw [hw6]
    exact HT5.out.put hN24 ⟨some ⟨[], 0, 0⟩, none, 0⟩ (IntsN.nil _ _ _) (by simp [tWay])
  have HC6 : Hid (Pl.Cells n R (fr, g) n.tracks.length Pl.spots (((List.replicate 24 zeroTc).set N0 ⟨some ⟨[], 0, 0⟩, none, 0⟩).map Tc.t)) := by
    rw [List.map_set, List.map_replicate]
    exact HC0.out
  generalize (List.replicate 24 zeroTc).set N0 ⟨some ⟨[], 0, 0⟩, none, 0⟩ = ls0 at HT6 HC6
  clear HT5 hT0 hF0 HC0 HW4 hw6 z0 z1 z2 z3 zf0 zf1 zf2 zf3 hN24 hN24i HN0
  go_loopg [12] (Pl.costs n R (fr, g) n.tracks.length (ls0.map Tc.t) + 1) (fun k cv wr => ∃ (ls : List Tc) (ch : Bool), cv = .bool ch ∧ Hid (TrSt w wr n n_tA n_sA n_tc n_sc c c_gA c_bA c_hA c_gc c_bc c_hc ls) ∧ Hid (Pl.Cells n R (fr, g) n.tracks.length Pl.spots (ls.map Tc.t)) ∧ Hid (ch = false → Pl.Still n R n.tracks.length Pl.spots (ls.map Tc.t)) ∧ Hid (ch = true → Pl.costs n R (fr, g) n.tracks.length (ls.map Tc.t) < k))
  case atStart => exact ⟨ls0, true, rfl, HT6, HC6, (fun e => by cases e), (fun _ => Nat.lt_succ_self _)⟩
  case round =>
    obtain ⟨ls, ch, rfl, hT, hC, hS, hK⟩ := hrel
    clear HT6 HC6
    cases ch with
    | false =>
      have hS0 := Lib.hid (hS.out rfl)
      clear hS hK
      go_wp2_with fail
      go_ret
      exact ⟨ls, rfl, hT.out.trips, hT.out.len, hT.out.wl, hC.out, hS0.out, hT.out.below⟩
    | true =>
      have hK0 := Lib.hid (hK.out rfl)
      obtain ⟨L0, hL0⟩ : ∃ L0, ls.map Tc.t = L0 := ⟨_, rfl⟩
      have hR0 : Hid (Pl.Rnd n R (fr, g) n.tracks.length Pl.spots L0 (Pl.Before 0 1 0) (ls.map Tc.t) false) := by
        rw [← hL0]
        exact Pl.Rnd.start hC.out (fun p hp j hd => by
          have := Pl.mem_spots.1 hp
          rcases hd with h | ⟨h, h2 | ⟨h2, h3⟩⟩ <;> omega)
      rw [hL0] at hK0
      clear hS hK hC hL0
      go_wp2_with fail
      go_loopw [12, 13] (fun cv sv wq => ∃ (st : Nat) (ls : List Tc) (ch : Bool), (st : Int) ≤ n.stops ∧ sv = .int .i64 st ∧ cv = .bool ch ∧ Hid (TrSt w wq n n_tA n_sA n_tc n_sc c c_gA c_bA c_hA c_gc c_bc c_hc ls) ∧ Hid (Pl.Rnd n R (fr, g) n.tracks.length Pl.spots L0 (Pl.Before st 1 0) (ls.map Tc.t) ch)) (fun _ s _ => n.stops.toNat - (intOf s).toNat)
      case atStart => exact ⟨0, ls, false, by omega, rfl, rfl, hT, hR0⟩
      case round =>
        obtain ⟨st, ls, ch, hst, rfl, rfl, hT, hR⟩ := hrel
        clear hR0
        obtain ⟨b0, b1, b2⟩ := hT.out.ncells
        by_cases hst1 : (st : Int) < n.stops
        · have hst5 : (st : Int) ≤ 5 := by omega
          go_wp2_with fail
          go_loopw [12, 14] (fun cv gv wq => ∃ (ga : Nat) (ls : List Tc) (ch : Bool), 1 ≤ ga ∧ ga ≤ 4 ∧ gv = .int .i64 ga ∧ cv = .bool ch ∧ Hid (TrSt w wq n n_tA n_sA n_tc n_sc c c_gA c_bA c_hA c_gc c_bc c_hc ls) ∧ Hid (Pl.Rnd n R (fr, g) n.tracks.length Pl.spots L0 (Pl.Before st ga 0) (ls.map Tc.t) ch)) (fun _ g _ => 4 - (intOf g).toNat)
          case atStart => exact ⟨1, ls, ch, by omega, by omega, rfl, rfl, hT, hR⟩
          case round =>
            obtain ⟨ga, ls, ch, hga1, hga4, rfl, rfl, hT, hR⟩ := hrel
            clear b0 b1 b2
            by_cases hga : ga ≤ 3
            · have hgai : (ga : Int) ≤ 3 := by omega
              have hgaj : 1 ≤ (ga : Int) := by omega
              obtain ⟨N, hN⟩ : ∃ N, Pl.numOf ((st : Int), (ga : Int)) = N := ⟨_, rfl⟩
              have hNi := num_int (s := (st : Int)) (g := (ga : Int)) (by omega) (by omega)
              rw [hN] at hNi
              have hNl : N < 24 := by omega
              have hNli : (N : Int) < 24 := by omega
              have HNM := Lib.hid hN
              obtain ⟨xt, xA, xc, hx, -, -, -, -⟩ := hT.out.pick hNl
              have HX := Lib.hid hx
              have hSB0 : Hid ((wr.alloc (.cells #[.int .i64 st, .int .i64 ga] 83)).heap[wr.heap.size]? = some (.cells #[.int .i64 st, .int .i64 ga] 83 (0, 0))) := heap_alloc_new wr _
              have hlt0 : Hid (w.heap.size + 3 < wr.heap.size) := hT.out.lt
              clear hN hNi hx
              go_wp2_with (go_at_call 87; refine (number_any st ga _ (by omega) hst5 (by omega) hgai).mono ?_; rintro e w5 ⟨rfl, hb5⟩; rw [HNM.out]; have HT5 := Lib.hid ((hT.out.step ((Below.refl _ _).alloc (Nat.le_refl _) _)).step hb5); have HSB5 := Lib.hid (blk_below hSB0.out hb5 (lt_of_block hSB0.out)); obtain ⟨y0, y1, y2, y3, -⟩ := HT5.out.trips.pick HX.out; clear hb5)
              have HT7 : Hid (TrSt w (w5.alloc (.cells #[.bool xt.isSome, .int .i64 (tKm xt), .int .i64 (tCh xt), .slice xA (tWay xt).length xc] 100)) n n_tA n_sA n_tc n_sc c c_gA c_bA c_hA c_gc c_bc c_hc ls) := HT5.out.step ((Below.refl _ _).alloc (Nat.le_refl _) _)
              have HSB7 : Hid ((w5.alloc (.cells #[.bool xt.isSome, .int .i64 (tKm xt), .int .i64 (tCh xt), .slice xA (tWay xt).length xc] 100)).heap[wr.heap.size]? = some (.cells #[.int .i64 st, .int .i64 ga] 83 (0, 0))) := blk_alloc HSB5.out _
              have HTB7 : Hid ((w5.alloc (.cells #[.bool xt.isSome, .int .i64 (tKm xt), .int .i64 (tCh xt), .slice xA (tWay xt).length xc] 100)).heap[w5.heap.size]? = some (.cells #[.bool xt.isSome, .int .i64 (tKm xt), .int .i64 (tCh xt), .slice xA (tWay xt).length xc] 100 (0, 0))) := heap_alloc_new _ _
              have hlt1 : Hid (w.heap.size + 3 < w5.heap.size ∧ wr.heap.size < w5.heap.size) := ⟨HT5.out.lt, lt_of_block HSB5.out⟩
              generalize w5.alloc (.cells #[.bool xt.isSome, .int .i64 (tKm xt), .int .i64 (tCh xt), .slice xA (tWay xt).length xc] 100) = w7 at HT7 HSB7 HTB7 ⊢
              generalize w5.heap.size = T at HTB7 hlt1 ⊢
              generalize (Value.agg #[.bool xt.isSome, .int .i64 (tKm xt), .int .i64 (tCh xt), .slice xA (tWay xt).length xc]) = V45
              generalize wr.heap.size = X at HSB7 hlt0 hlt1 ⊢
              clear HT5 HSB5 hSB0 y0 y1 y2 y3 hT
              go_loopw [12, 17] (fun cv iv wq => ∃ (i : Nat) (ls : List Tc) (ch : Bool), i ≤ n.tracks.length ∧ iv = .int .i64 i ∧ cv = .bool ch ∧ Hid (TrSt w wq n n_tA n_sA n_tc n_sc c c_gA c_bA c_hA c_gc c_bc c_hc ls) ∧ Hid (Pl.Rnd n R (fr, g) n.tracks.length Pl.spots L0 (Pl.Before st ga i) (ls.map Tc.t) ch) ∧ Hid (wq.heap[X]? = some (.cells #[.int .i64 st, .int .i64 ga] 83 (0, 0))) ∧
                Hid (wq.heap[T]? = some (.cells #[.bool xt.isSome, .int .i64 (tKm xt), .int .i64 (tCh xt), .slice xA (tWay xt).length xc] 100 (0, 0))) ∧ Hid (ls[N]? = some ⟨xt, xA, xc⟩)) (fun _ i _ => n.tracks.length - (intOf i).toNat)
              case atStart => exact ⟨0, ls, ch, Nat.zero_le _, rfl, rfl, HT7, hR, HSB7, HTB7, HX⟩
              case round =>
                obtain ⟨i, ls, ch, hi, rfl, rfl, hT, hR, hSB, hTB, hLN⟩ := hrel
                clear HT7 HSB7 HTB7 HX
                obtain ⟨b0, b1, b2⟩ := hT.out.ncells
                obtain ⟨t0, t1, t2, t3⟩ := four_cells hTB.out
                by_cases hil : i < n.tracks.length
                · have hili : (i : Int) < (n.tracks.length : Int) := by omega
                  cases xt with
                  | none =>
                    have HMV : Hid (Pl.Rnd n R (fr, g) n.tracks.length Pl.spots L0 (Pl.Before st ((ga + 1 : Nat) : Int) 0) (ls.map Tc.t) ch) := hR.out.move (fun p hp t ht j hj hd hz => .inl (by
                      by_cases he : p = ((st : Int), (ga : Int))
                      · subst he
                        rw [HNM.out, List.getElem?_map, hLN.out] at ht
                        cases ht
                      · have he2 : ¬ (p.1 = st ∧ p.2 = ga) := fun h => he (Prod.ext h.1 h.2)
                        unfold Pl.Before at hd ⊢
                        omega))
                    simp only [Option.isSome_none] at t0
                    clear t1 t2 t3 hR hLN hSB hTB
                    simp only [Option.isSome_none]
                    go_wp2_with fail
                    go_roundw
                    case rel => exact ⟨ga + 1, ls, ch, by omega, by omega, by go_num, rfl, hT, HMV⟩
                    case measure => simp [intOf]; omega
                  | some xs =>
                    obtain ⟨tw, tk, tc⟩ := xs
                    obtain ⟨d0, d1, d2, d3, d4, d5⟩ := hT.out.ccells
                    have s0 := blk_cell hSB.out 0
                    have s1 := blk_cell hSB.out 1
                    have hsp : (((st : Int), (ga : Int)) : Pl.Place) ∈ Pl.spots := Pl.mem_spots.2 ⟨by show (0 : Int) ≤ st; omega, hst5, hgaj, hgai⟩
                    have hbd := hR.out.cells.bounds HF.out HK99.out hsp (t := ⟨tw, tk, tc⟩) (by rw [HNM.out, List.getElem?_map, hLN.out]; rfl)
                    have hway := Lib.hid (hT.out.trips.ways _ (List.mem_of_getElem? hLN.out))
                    have HSK : Hid ((R ((st : Int), (ga : Int)) i).2.2 ≠ 0 → Pl.Rnd n R (fr, g) n.tracks.length Pl.spots L0 (Pl.Before st ga (i + 1)) (ls.map Tc.t) ch) := fun hne => hR.out.move (fun p hp t ht j hj hd hz => by
                      by_cases he : p = ((st : Int), (ga : Int)) ∧ j = i
                      · obtain ⟨rfl, rfl⟩ := he
                        exact absurd hz hne
                      · left
                        have he2 : ¬ (p.1 = st ∧ p.2 = ga ∧ j = i) := fun h => he ⟨Prod.ext h.1 h.2.1, h.2.2⟩
                        unfold Pl.Before at hd ⊢
                        omega)
                    have hrun := rrun_any n n_tA n_sA n_tc n_sc c c_gA c_bA c_hA c_gc c_bc c_hc rA reb rc ((st : Int), (ga : Int)) i hil wr (hT.out.nreads HN.out) (hT.out.creads HR.out) (hT.out.ints HRB.out) hrl
                    obtain ⟨rr, hrr⟩ : ∃ rr, Pl.run n c reb ((st : Int), (ga : Int)) i = rr := ⟨_, rfl⟩
                    rw [hrr] at hrun
                    have HRUN0 := Lib.hid hrr
                    obtain ⟨⟨en, tg⟩, cg, bar⟩ := rr
                    clear hrr
                    simp only [Option.isSome_some, tKm, tCh, tWay] at t0 t1 t2 t3 hbd hway
                    obtain ⟨hb23, hk0, hk3, hc0, hc23⟩ := hbd
                    by_cases hz : bar = 0
                    · subst hz
                      have hv : rrunVal (rrunOf ((st : Int), (ga : Int)) ((en, tg), cg, 0)) = .tuple #[.agg #[.int .i64 en, .int .i64 tg], .int .i64 0] := by rw [rrun_ok rfl]; rfl
                      rw [hv] at hrun
                      have HRUN := Lib.hid hrun
                      clear hrun hv
                      by_cases hib : (i : Int) = but
                      · subst hib
                        have HMV := Lib.hid (HSK.out (HBUT.out _ i rfl))
                        clear hway hb23 hk0 hk3 hc0 hc23 hsp HRUN0 HSK hR
                        go_wp2_with (go_at_call 88; refine HRUN.out.mono ?_; rintro e w5 ⟨rfl, hb5⟩; have HB5 := Lib.hid hb5; clear hb5 t0 t1 t2 t3 s0 s1 d0 d1 d2 d3 d4 d5 b0 b1 b2)
                        go_roundw
                        case rel => exact ⟨i + 1, ls, ch, by omega, by go_num, rfl, (hT.out.step HB5.out).step ((Below.refl _ _).alloc (Nat.le_refl _) _), HMV, blk_alloc (blk_below hSB.out HB5.out (lt_of_block hSB.out)) _, blk_alloc (blk_below hTB.out HB5.out (lt_of_block hTB.out)) _, hLN⟩
                        case measure => simp [intOf]; omega
                      · have hibf : ((i : Int) == but) = false := by rw [beq_eq_false_iff_ne]; exact hib
                        have hrr : R ((st : Int), (ga : Int)) i = ((en, tg), cg, 0) := (HON.out _ i hib).trans HRUN0.out
                        have hre := HRE.out ((st : Int), (ga : Int)) i (by rw [HRUN0.out])
                        rw [HRUN0.out] at hre
                        simp only at hre
                        obtain ⟨hre1, hre2, hre3, hre4⟩ := hre
                        have hok := HTK.out i hil
                        have e0 : n.tracks.getD i default = n.tracks[i] := by simp [List.getD_eq_getElem?_getD, List.getElem?_eq_getElem hil]
                        have hnr := hT.out.nreads HN.out
                        obtain ⟨bt, ot, hAt, hbt, hct⟩ := hnr.tracks i n.tracks[i] (List.getElem?_eq_getElem hil)
                        have hlt := hnr.lenT
                        subst hAt
                        obtain ⟨t, ht⟩ : ∃ t, n.tracks[i] = t := ⟨_, rfl⟩
                        rw [ht] at hct e0
                        rw [e0] at hok hre1 hre2 hre3
                        have HE0 := Lib.hid e0
                        obtain ⟨-, -, k2, -⟩ := trk_cells (w := wr) (b := bt) (o := ot + i * 9) (fun j v hv => hct j v hv)
                        have he0 : 0 ≤ en ∧ en ≤ 5 ∧ en ≠ st := by
                          have := hok.a0; have := hok.a1; have := hok.b0; have := hok.b1; have := hok.ab
                          rw [hre2]
                          split <;> omega
                        have hg0 : 1 ≤ tg ∧ tg ≤ 3 := by
                          have := hok.g0; have := hok.g1
                          omega
                        have hkm0 := hok.km0
                        have hkm1 := hok.km1
                        obtain ⟨N2, hN2⟩ : ∃ N2, Pl.numOf (en, tg) = N2 := ⟨_, rfl⟩
                        have hN2i := num_int (s := en) (g := tg) he0.1 (by omega)
                        rw [hN2] at hN2i
                        have hN2l : N2 < 24 := by omega
                        have hN2li : (N2 : Int) < 24 := by omega
                        have hN2N : N2 ≠ N := fun e => by
                          have h1 := num_int (s := (st : Int)) (g := (ga : Int)) (by omega) (by omega)
                          rw [HNM.out, ← e, hN2i] at h1
                          have := he0.2.2
                          omega
                        have HNM2 := Lib.hid hN2
                        have HNN := Lib.hid hN2N
                        have HRR2 := Lib.hid hrr
                        have HCG := Lib.hid hre4
                        obtain ⟨he00, he05, -⟩ := he0
                        obtain ⟨hg01, hg03⟩ := hg0
                        have hTKB : Hid (wr.heap[bt]? = wr.heap[bt]?) := rfl
                        clear hre1 hre2 hre3 hre4 hok e0 hN2i hN2N hrr hct hnr ht hTKB hN2
                        go_wp2_with (go_at_call 88; refine HRUN.out.mono ?_; rintro e w5 ⟨rfl, hb5⟩; have HB5 := Lib.hid hb5; clear hb5 t0 t1 t2 t3 s0 s1 d0 d1 d2 d3 d4 d5 b0 b1 b2)
                        have HT8 : Hid (TrSt w (w5.alloc (.cells #[.int .i64 en, .int .i64 tg] 83)) n (some ⟨bt, ot, none⟩) n_sA n_tc n_sc c c_gA c_bA c_hA c_gc c_bc c_hc ls) := (hT.out.step HB5.out).step ((Below.refl _ _).alloc (Nat.le_refl _) _)
                        have HSB8 : Hid ((w5.alloc (.cells #[.int .i64 en, .int .i64 tg] 83)).heap[X]? = some (.cells #[.int .i64 st, .int .i64 ga] 83 (0, 0))) := blk_alloc (blk_below hSB.out HB5.out (lt_of_block hSB.out)) _
                        have HTB8 : Hid ((w5.alloc (.cells #[.int .i64 en, .int .i64 tg] 83)).heap[T]? = some (.cells #[.bool true, .int .i64 tk, .int .i64 tc, .slice xA tw.length xc] 100 (0, 0))) := blk_alloc (blk_below hTB.out HB5.out (lt_of_block hTB.out)) _
                        have HEB8 : Hid ((w5.alloc (.cells #[.int .i64 en, .int .i64 tg] 83)).heap[w5.heap.size]? = some (.cells #[.int .i64 en, .int .i64 tg] 83 (0, 0))) := heap_alloc_new _ _
                        have hkm8 : (w5.alloc (.cells #[.int .i64 en, .int .i64 tg] 83)).cell? ⟨bt, ot + i * 9 + 2, none⟩ = some (.int .i64 t.km) := by
                          have hb8 : Below wr.heap.size wr (w5.alloc (.cells #[.int .i64 en, .int .i64 tg] 83)) := HB5.out.alloc HB5.out.size _
                          rw [hb8.cell (p := ⟨bt, ot + i * 9 + 2, none⟩) hbt]
                          exact k2
                        have hbt8 : bt < (w5.alloc (.cells #[.int .i64 en, .int .i64 tg] 83)).heap.size := by
                          have := HB5.out.size
                          simp
                          omega
                        have HX8 : Hid (X < w5.heap.size ∧ T < w5.heap.size) := ⟨Nat.lt_of_lt_of_le (lt_of_block hSB.out) HB5.out.size, Nat.lt_of_lt_of_le (lt_of_block hTB.out) HB5.out.size⟩
                        have HWAY : Hid (Ints (w5.alloc (.cells #[.int .i64 en, .int .i64 tg] 83)) (w5.alloc (.cells #[.int .i64 en, .int .i64 tg] 83)).heap.size xA tw) := by
                          have h1 := HT8.out.trips.ways _ (List.mem_of_getElem? hLN.out)
                          exact h1.ints
                        obtain ⟨wv, hwv⟩ : ∃ wv, w5.alloc (.cells #[.int .i64 en, .int .i64 tg] 83) = wv := ⟨_, rfl⟩
                        obtain ⟨E, hE⟩ : ∃ E, w5.heap.size = E := ⟨_, rfl⟩
                        rw [hwv] at HT8 HSB8 HTB8 HEB8 hkm8 hbt8 HWAY ⊢
                        rw [hE] at HEB8 HX8 ⊢
                        clear hwv hE hway
                        have hbnet : wv.heap[w.heap.size]? = some (.cells #[.int .i64 n.stops, .slice (some ⟨bt, ot, none⟩) n.tracks.length n_tc, .slice n_sA n.shops.length n_sc] 25 (0, 0)) := HT8.out.bn
                        have HSS : Hid (∀ W, Below wv.heap.size wv W → ((W.cell? ⟨T, 0, none⟩ = some (.bool true) ∧ W.cell? ⟨T, 1, none⟩ = some (.int .i64 tk) ∧ W.cell? ⟨T, 2, none⟩ = some (.int .i64 tc) ∧ W.cell? ⟨T, 3, none⟩ = some (.slice xA tw.length xc)) ∧ W.cell? ⟨w.heap.size, 1, none⟩ = some (.slice (some ⟨bt, ot, none⟩) n.tracks.length n_tc) ∧ W.cell? ⟨bt, ot + i * 9 + 2, none⟩ = some (.int .i64 t.km))) := fun W hW =>
                          ⟨four_cells (blk_below HTB8.out hW (lt_of_block HTB8.out)), blk_cell (blk_below hbnet hW (lt_of_block hbnet)) 1, (hW.cell (p := ⟨bt, ot + i * 9 + 2, none⟩) hbt8).trans hkm8⟩
                        have HIA : Hid (∀ W, Below wv.heap.size wv W → Ints W W.heap.size xA tw) := fun W hW => (HWAY.out.below hW).more hW.size
                        clear hbnet hkm8 HWAY
                        go_upto_region 19 with fail
                        go_cut [20] (fun v wx => ∃ (P2 : Nat) (A2 : Option Addr) (c2 : Nat), v = .pointer (some ⟨P2, 0, none⟩) ∧ wv.heap.size ≤ P2 ∧ Hid (wx.heap[P2]? = some (.cells #[.bool true, .int .i64 (tk + t.km), .int .i64 tc, .slice A2 (tw.length + 1) c2] 100 (0, 0))) ∧ Hid (OwnInts wx wv.heap.size A2 c2 (tw ++ [(i : Int)])) ∧ Hid (Below wv.heap.size wv wx))
                        case first =>
                          have hS := HSS.out _ (Below.refl _ _).drew
                          have hwk : IntKind.i64.wrap (tk + t.km) = tk + t.km := IntWalk.i64_in _ ⟨by omega, by omega⟩
                          refine wp_region_L (by kernel_rfl) (fun W => ((W.cell? ⟨T, 0, none⟩ = some (.bool true) ∧ W.cell? ⟨T, 1, none⟩ = some (.int .i64 tk) ∧ W.cell? ⟨T, 2, none⟩ = some (.int .i64 tc) ∧ W.cell? ⟨T, 3, none⟩ = some (.slice xA tw.length xc)) ∧ W.cell? ⟨w.heap.size, 1, none⟩ = some (.slice (some ⟨bt, ot, none⟩) n.tracks.length n_tc) ∧ W.cell? ⟨bt, ot + i * 9 + 2, none⟩ = some (.int .i64 t.km))) [] ?_
                          refine wpAnyL_take (i := 0) (v := ?v0) rfl (by kernel_rfl) (by kernel_rfl) (by kernel_rfl) (by kernel_rfl) (by rfl) (fun _ _ _ h => h) hS (Or.inl ⟨by rfl, ?hy0⟩) ?hr0
                          case hy0 => (intro w hSw; (try dsimp only at hSw); go_simp; (try rfl))
                          simp only [List.getElem_toArray, List.getElem_cons_zero, Act.put, List.setIfInBounds_toArray, List.set_cons_zero, List.set_cons_succ]
                          refine wpAnyL_take (i := 1) (v := ?v1) rfl (by kernel_rfl) (by kernel_rfl) (by kernel_rfl) (by kernel_rfl) (by rfl) (fun _ _ _ h => h) hS (Or.inl ⟨by rfl, ?hy1⟩) ?hr1
                          case hy1 => (intro w hSw; (try dsimp only at hSw); go_simp; (try rfl))
                          simp only [List.getElem_toArray, List.getElem_cons_succ, List.getElem_cons_zero, Act.put, List.setIfInBounds_toArray, List.set_cons_zero, List.set_cons_succ]
                          refine wpAnyL_take (i := 2) (v := ?v2) rfl (by kernel_rfl) (by kernel_rfl) (by kernel_rfl) (by kernel_rfl) (by rfl) (fun _ _ _ h => h) hS (Or.inl ⟨by rfl, ?hy2⟩) ?hr2
                          case hy2 => (intro w hSw; (try dsimp only at hSw); go_simp; (try rfl))
                          simp only [List.getElem_toArray, List.getElem_cons_succ, List.getElem_cons_zero, Act.put, List.setIfInBounds_toArray, List.set_cons_zero, List.set_cons_succ]
                          refine wpAnyL_take (i := 3) (v := ?v3) rfl (by kernel_rfl) (by kernel_rfl) (by kernel_rfl) (by kernel_rfl) (by rfl) (fun _ _ _ h => h) hS (Or.inl ⟨by rfl, ?hy3⟩) ?hr3
                          case hy3 => (intro w hSw; (try dsimp only at hSw); go_simp; (try rfl))
                          simp only [List.getElem_toArray, List.getElem_cons_succ, List.getElem_cons_zero, Act.put, List.setIfInBounds_toArray, List.set_cons_zero, List.set_cons_succ]
                          refine wpAnyL_take (i := 4) (v := ?v4) rfl (by kernel_rfl) (by kernel_rfl) (by kernel_rfl) (by kernel_rfl) (by rfl) (fun _ _ _ h => h) hS (Or.inl ⟨by rfl, ?hy4⟩) ?hr4
                          case hy4 => (intro w hSw; (try dsimp only at hSw); go_simp; (try rfl))
                          simp only [List.getElem_toArray, List.getElem_cons_succ, List.getElem_cons_zero, Act.put, List.setIfInBounds_toArray, List.set_cons_zero, List.set_cons_succ]
                          refine wpAnyL_take (i := 5) (v := ?v5) rfl (by kernel_rfl) (by kernel_rfl) (by kernel_rfl) (by kernel_rfl) (by rfl) (fun _ _ _ h => h) hS (Or.inl ⟨by rfl, ?hy5⟩) ?hr5
                          case hy5 => (intro w hSw; (try dsimp only at hSw); go_simp; (try rfl))
                          simp only [List.getElem_toArray, List.getElem_cons_succ, List.getElem_cons_zero, Act.put, List.setIfInBounds_toArray, List.set_cons_zero, List.set_cons_succ]
                          refine wpAnyL_take (i := 6) (v := ?v6) rfl (by kernel_rfl) (by kernel_rfl) (by kernel_rfl) (by kernel_rfl) (by rfl) (fun _ _ _ h => h) hS (Or.inl ⟨by rfl, ?hy6⟩) ?hr6
                          case hy6 => (intro w hSw; (try dsimp only at hSw); go_simp; (try rfl))
                          simp only [List.getElem_toArray, List.getElem_cons_succ, List.getElem_cons_zero, Act.put, List.setIfInBounds_toArray, List.set_cons_zero, List.set_cons_succ]
                          refine wpAnyL_take (i := 7) (v := ?v7) rfl (by kernel_rfl) (by kernel_rfl) (by kernel_rfl) (by kernel_rfl) (by rfl) (fun _ _ _ h => h) hS (Or.inl ⟨by rfl, ?hy7⟩) ?hr7
                          case hy7 => (intro w hSw; (try dsimp only at hSw); go_simp; (try rfl))
                          simp only [List.getElem_toArray, List.getElem_cons_succ, List.getElem_cons_zero, Act.put, List.setIfInBounds_toArray, List.set_cons_zero, List.set_cons_succ]
                          refine wpAnyL_take (i := 8) (v := ?v8) rfl (by kernel_rfl) (by kernel_rfl) (by kernel_rfl) (by kernel_rfl) (by rfl) (fun _ _ _ h => h) hS (Or.inl ⟨by rfl, ?hy8⟩) ?hr8
                          case hy8 => (intro w hSw; (try dsimp only at hSw); go_simp; (try rfl))
                          simp only [List.getElem_toArray, List.getElem_cons_succ, List.getElem_cons_zero, Act.put, List.setIfInBounds_toArray, List.set_cons_zero, List.set_cons_succ]
                          refine wpAnyL_take (i := 9) (v := ?v9) rfl (by kernel_rfl) (by kernel_rfl) (by kernel_rfl) (by kernel_rfl) (by rfl) (fun _ _ _ h => h) hS (Or.inl ⟨by rfl, ?hy9⟩) ?hr9
                          case hy9 => (intro w hSw; (try dsimp only at hSw); go_simp; (try rfl))
                          simp only [List.getElem_toArray, List.getElem_cons_succ, List.getElem_cons_zero, Act.put, List.setIfInBounds_toArray, List.set_cons_zero, List.set_cons_succ]
                          refine wpAnyL_take (i := 10) (v := ?v10) rfl (by kernel_rfl) (by kernel_rfl) (by kernel_rfl) (by kernel_rfl) (by rfl) (fun _ _ _ h => h) hS (Or.inl ⟨by rfl, ?hy10⟩) ?hr10
                          case hy10 => (intro w hSw; (try dsimp only at hSw); go_simp; (try rfl))
                          simp only [List.getElem_toArray, List.getElem_cons_succ, List.getElem_cons_zero, Act.put, List.setIfInBounds_toArray, List.set_cons_zero, List.set_cons_succ]
                          refine wpAnyL_take (i := 12) (v := ?v12) rfl (by kernel_rfl) (by kernel_rfl) (by kernel_rfl) (by kernel_rfl) (by rfl) (fun _ _ _ h => h) hS (Or.inl ⟨by rfl, ?hy12⟩) ?hr12
                          case hy12 => (intro w hSw; (try dsimp only at hSw); go_simp; (try rfl))
                          simp only [List.getElem_toArray, List.getElem_cons_succ, List.getElem_cons_zero, Act.put, List.setIfInBounds_toArray, List.set_cons_zero, List.set_cons_succ]
                          refine wpAnyL_take (i := 13) (v := ?v13) rfl (by kernel_rfl) (by kernel_rfl) (by kernel_rfl) (by kernel_rfl) (by rfl) (fun _ _ _ h => h) hS (Or.inl ⟨by rfl, ?hy13⟩) ?hr13
                          case hy13 => (intro w hSw; (try dsimp only at hSw); go_simp; (try rfl))
                          simp only [List.getElem_toArray, List.getElem_cons_succ, List.getElem_cons_zero, Act.put, List.setIfInBounds_toArray, List.set_cons_zero, List.set_cons_succ]
                          refine wpAnyL_take (i := 15) (v := ?v15) rfl (by kernel_rfl) (by kernel_rfl) (by kernel_rfl) (by kernel_rfl) (by rfl) (fun _ _ _ h => h) hS (Or.inl ⟨by rfl, ?hy15⟩) ?hr15
                          case hy15 => (intro w hSw; (try dsimp only at hSw); go_simp; (try rfl))
                          simp only [List.getElem_toArray, List.getElem_cons_succ, List.getElem_cons_zero, Act.put, List.setIfInBounds_toArray, List.set_cons_zero, List.set_cons_succ]
                          clear hS
                          have hG0 : Below wv.heap.size wv wv.drew := (Below.refl _ _).drew
                          refine wpAnyL_float2 [⟨11, 84, [], []⟩, ⟨14, 87, [11], [11]⟩, ⟨16, 89, [], []⟩, ⟨17, 90, [14, 16], [11, 14, 16]⟩, ⟨18, 91, [17], []⟩, ⟨19, 20, [], []⟩] (TkF wv.heap.size tw i (tk + t.km) tc) (fun W => Below wv.heap.size wv W) TkSt _
                            (target := #[true, true, true, true, true, true, true, true, true, true, true, true, true, true, true, true, true, true, true, true, false]) (fuel0 := 1) (by decide) (by decide) (by simp) (fun W hW => HSS.out W hW)
                            ?hst ?hop ?hfin 6 [11, 14, 16, 17, 18, 19] _ _ _ (by kernel_rfl) (by decide) (fun _ _ => rfl) rfl rfl hG0 (by intro f hf; simp only [List.mem_cons, List.not_mem_nil, or_false] at hf; rcases hf with rfl | rfl | rfl | rfl | rfl | rfl <;> (intro h; simp at h)) (by intro f hf; simp only [List.mem_cons, List.not_mem_nil, or_false] at hf; rcases hf with rfl | rfl | rfl | rfl | rfl | rfl <;> (intro h; simp at h))
                          case hst =>
                            intro e he f hf hne hk hd v W W' hSt hF
                            simp only [List.mem_cons, List.not_mem_nil, or_false] at he hf
                            rcases he with rfl | rfl | rfl | rfl | rfl | rfl
                            · exact hF.step (by simpa [TkSt] using hSt)
                            · have hSt' : ∀ (b : Nat) (cs : Array Value) (t : TypeId), W.heap[b]? = some (.cells cs t (0, 0)) → cs.size ≠ 0 → W'.heap[b]? = W.heap[b]? := by simpa [TkSt] using hSt
                              rcases hf with rfl | rfl | rfl | rfl | rfl | rfl
                              · exact absurd (by simp) hk
                              · exact absurd rfl hne
                              · obtain ⟨q, h0, h1⟩ := hF.2.2.1 rfl
                                exact TkF.m16 ⟨q, h0, (hSt' q _ 3 h1 (by simp)).trans h1⟩
                              · exact absurd (by simp) hd
                              · obtain ⟨A, c, h0, h1⟩ := hF.2.2.2.2.1 rfl
                                exact TkF.m18 ⟨A, c, h0, own_same h1 (by simp) hSt'⟩
                              · obtain ⟨p, h0, h1, h2⟩ := hF.2.2.2.2.2 rfl
                                exact TkF.m19 ⟨p, h0, h1, (hSt' p _ 100 h2 (by simp)).trans h2⟩
                            · exact hF.step (by simpa [TkSt] using hSt)
                            · have hSt' : ∀ (b : Nat) (cs : Array Value) (t : TypeId), W.heap[b]? = some (.cells cs t (0, 0)) → t ≠ 3 → W'.heap[b]? = W.heap[b]? := by simpa [TkSt] using hSt
                              rcases hf with rfl | rfl | rfl | rfl | rfl | rfl
                              · exact absurd (by simp) hk
                              · exact absurd (by simp) hk
                              · exact absurd (by simp) hk
                              · exact absurd rfl hne
                              · exact absurd (by simp) hd
                              · obtain ⟨p, h0, h1, h2⟩ := hF.2.2.2.2.2 rfl
                                exact TkF.m19 ⟨p, h0, h1, (hSt' p _ 100 h2 (by decide)).trans h2⟩
                            · exact hF.step (by simpa [TkSt] using hSt)
                            · exact hF.step (by simpa [TkSt] using hSt)
                          case hop =>
                            intro e he a' w' K' hag hdf hG hdep hK
                            clear hdf
                            simp only [List.mem_cons, List.not_mem_nil, or_false] at he
                            rcases he with rfl | rfl | rfl | rfl | rfl | rfl
                            · refine wpOp_step rfl ?_
                              intro K2 hK2
                              have HK2 := Lib.hid hK2
                              clear hK2 hag hdep
                              go_simp
                              exact HK2.out _ _ (hK.out _ _ (show TkSt 11 _ _ from (Below.refl _ _).alloc (Nat.le_refl _) _) (hG.alloc hG.size _) (TkF.m11 ⟨_, rfl, heap_alloc_new _ _, rfl, .inr ⟨_, 0, #[], rfl, hG.size, heap_alloc_new _ _, Nat.le_refl _, Nat.zero_le _, rfl, rfl⟩⟩))
                            · obtain ⟨v11, g11, F11⟩ := hdep ⟨11, 84, [], []⟩ (by simp) (by simp)
                              obtain ⟨q, rfl, hq, hown⟩ := F11.1 rfl
                              have e11 := eval_tmp g11
                              have q1 := (hag 86 (by simp)).trans (show _ = some (.slice xA tw.length xc) from rfl)
                              have e12 := eval_tmp q1
                              have hrow := int_row2 hown
                              refine wpOp_step rfl ?_
                              intro K2 hK2
                              refine step_app_ints (by rfl) (.tmp 84) (.tmp 86) 23 (by rfl) wv.heap.size Tryz.underlying23 int_info (some ⟨q, 0, none⟩) 0 [] e11 hown w'.heap.size xA xc tw e12 (HIA.out _ hG) (by simp; omega) hG.size ?_
                              intro A2 c2 w3 hown3 hg3
                              refine hK2 _ _ ?_
                              have hx := hK.out (.slice A2 ([] ++ tw).length c2) w3 (by
                                show TkSt 14 _ _
                                unfold TkSt
                                rw [if_pos rfl]
                                intro b cs tt hb hcs
                                refine hg3.block b (lt_of_block hb) (fun e => ?_)
                                have e2 : some q = some b := e.symm
                                injection e2 with e2
                                subst e2
                                rw [hq] at hb
                                injection hb with hb
                                injection hb with hb _ _
                                exact hcs (by rw [← hb]; rfl)) (hG.grown hg3 hG.size (own_from hown)) (TkF.m14 ⟨A2, c2, by simp, by simpa using hown3⟩)
                              exact hx
                            · have q1 := (hag 88 (by simp)).trans (show _ = some (.int .i64 i) from rfl)
                              have h1 := getD_tmp q1
                              refine wpOp_step rfl ?_
                              intro K2 hK2
                              have HK2 := Lib.hid hK2
                              clear hK2 hag hdep
                              go_simp
                              exact HK2.out _ _ (hK.out _ _ (show TkSt 16 _ _ from (Below.refl _ _).alloc (Nat.le_refl _) _) (hG.alloc hG.size _) (TkF.m16 ⟨_, rfl, heap_alloc_new _ _⟩))
                            · obtain ⟨v14, g14, F14⟩ := hdep ⟨14, 87, [11], [11]⟩ (by simp) (by simp)
                              obtain ⟨v16, g16, F16⟩ := hdep ⟨16, 89, [], []⟩ (by simp) (by simp)
                              obtain ⟨A5, c5, rfl, ho5⟩ := F14.2.1 rfl
                              obtain ⟨q, rfl, hq⟩ := F16.2.2.1 rfl
                              have e5 := eval_tmp g14
                              have e10 := eval_tmp g16
                              refine wpOp_step rfl ?_
                              intro K2 hK2
                              have hrow := int_row2 ho5
                              refine step_app_ints (by rfl) (.tmp 87) (.tmp 89) 23 (by rfl) wv.heap.size Tryz.underlying23 int_info A5 c5 tw e5 ho5 (q + 1) (some ⟨q, 0, none⟩) 1 [(i : Int)] e10 (fun j x hj => ?_) (by simp; omega) hG.size ?_
                              · rcases j with _ | j
                                · simp at hj
                                  subst hj
                                  exact ⟨q, 0, rfl, by omega, blk_cell hq 0⟩
                                · simp at hj
                              · intro A2 c2 w3 hown3 hg3
                                refine hK2 _ _ ?_
                                have hx := hK.out (.slice A2 (tw ++ [(i : Int)]).length c2) w3 (by
                                  show TkSt 17 _ _
                                  unfold TkSt
                                  rw [if_neg (by decide), if_pos rfl]
                                  intro b cs tt hb htt
                                  refine hg3.block b (lt_of_block hb) (fun e => ?_)
                                  obtain ⟨cur, hcur⟩ := hrow b e.symm
                                  rw [hb] at hcur
                                  injection hcur with hcur
                                  injection hcur with _ hcur _
                                  exact htt hcur) (hG.grown hg3 hG.size (own_from ho5)) (TkF.m17 ⟨A2, c2, by simp, hown3⟩)
                                exact hx
                            · obtain ⟨v17, g17, F17⟩ := hdep ⟨17, 90, [14, 16], [11, 14, 16]⟩ (by simp) (by simp)
                              obtain ⟨A2, c2, rfl, ho2⟩ := F17.2.2.2.1 rfl
                              have h1 := getD_tmp g17
                              have q2 := (hag 81 (by simp)).trans (show _ = some (.int .i64 (tk + t.km)) from rfl)
                              have h2 := getD_tmp q2
                              have q3 := (hag 83 (by simp)).trans (show _ = some (.int .i64 tc) from rfl)
                              have h3 := getD_tmp q3
                              refine wpOp_step rfl ?_
                              intro K2 hK2
                              have HK2 := Lib.hid hK2
                              clear hK2 hag hdep
                              go_simp
                              exact HK2.out _ _ (hK.out _ _ (show TkSt 18 _ _ from Below.refl _ _) hG (TkF.m18 ⟨A2, c2, rfl, ho2⟩))
                            · refine wpOp_step rfl ?_
                              intro K2 hK2
                              have HK2 := Lib.hid hK2
                              clear hK2 hag hdep
                              go_simp
                              exact HK2.out _ _ (hK.out _ _ (show TkSt 19 _ _ from (Below.refl _ _).alloc (Nat.le_refl _) _) (hG.alloc hG.size _) (TkF.m19 ⟨_, rfl, hG.size, heap_alloc_new _ _⟩))
                          case hfin =>
                            intro a' w' hag hdf hsz hG hF
                            have hsz2 : a'.tmps.size = 113 := hsz
                            obtain ⟨v1, g1⟩ : ∃ v, a'.tmps[84]? = some v := ⟨_, Array.getElem?_eq_getElem (by rw [hsz2]; decide)⟩
                            obtain ⟨v2, g2⟩ : ∃ v, a'.tmps[87]? = some v := ⟨_, Array.getElem?_eq_getElem (by rw [hsz2]; decide)⟩
                            obtain ⟨v3, g3⟩ : ∃ v, a'.tmps[89]? = some v := ⟨_, Array.getElem?_eq_getElem (by rw [hsz2]; decide)⟩
                            obtain ⟨v4, g4⟩ : ∃ v, a'.tmps[90]? = some v := ⟨_, Array.getElem?_eq_getElem (by rw [hsz2]; decide)⟩
                            obtain ⟨v5, g5, F5⟩ := hF ⟨18, 91, [17], []⟩ (by simp) (by simp)
                            obtain ⟨v6, g6, F6⟩ := hF ⟨19, 20, [], []⟩ (by simp) (by simp)
                            have ha := act_of [(84, v1), (87, v2), (89, v3), (90, v4), (91, v5), (20, v6)] hdf hsz (fun s hs => hag s (by simpa using hs)) (show ([84, 87, 89, 90, 91, 20] : List Nat).Nodup by decide) (fun x hx => by simp only [List.mem_cons, List.not_mem_nil, or_false] at hx; rcases hx with rfl | rfl | rfl | rfl | rfl | rfl <;> first | exact g1 | exact g2 | exact g3 | exact g4 | exact g5 | exact g6)
                            obtain ⟨A2, c2, rfl, ho2⟩ := F5.2.2.2.2.1 rfl
                            obtain ⟨P2, rfl, hP2, hP⟩ := F6.2.2.2.2.2 rfl
                            subst ha
                            simp only [List.foldl_cons, List.foldl_nil, Act.put, List.setIfInBounds_toArray, List.set_cons_zero, List.set_cons_succ]
                            have hl1 := lt_of_block hP
                            have p0 : w'.cell? ⟨P2, 0, none⟩ = some (.bool false) := blk_cell hP 0
                            have p1 : w'.cell? ⟨P2, 1, none⟩ = some (.int .i64 0) := blk_cell hP 1
                            have p2 : w'.cell? ⟨P2, 2, none⟩ = some (.int .i64 0) := blk_cell hP 2
                            have p3 : w'.cell? ⟨P2, 3, none⟩ = some (.slice none 0 0) := blk_cell hP 3
                            have pf0 := blk_frozen hP 0
                            have pf1 := blk_frozen hP 1
                            have pf2 := blk_frozen hP 2
                            have pf3 := blk_frozen hP 3
                            have hbox := blk_set (blk_set (blk_set (blk_set hP (i := 0) (.bool true)) (i := 1) (.int .i64 (tk + t.km))) (i := 2) (.int .i64 tc)) (i := 3) (.slice A2 (tw.length + 1) c2)
                            have hbe := (((hG.setCell hP2 (.bool true) (p := ⟨P2, 0, none⟩)).setCell hP2 (.int .i64 (tk + t.km)) (p := ⟨P2, 1, none⟩)).setCell hP2 (.int .i64 tc) (p := ⟨P2, 2, none⟩)).setCell hP2 (.slice A2 (tw.length + 1) c2) (p := ⟨P2, 3, none⟩)
                            have hne : ∀ {k : Nat}, (Value.slice A2 k c2).ownBlock ≠ some P2 := fun e => by
                              obtain ⟨cur, hcur⟩ := int_row2 ho2 P2 ((own_any A2 _ _ c2).trans e)
                              rw [hP] at hcur
                              injection hcur with hcur
                              injection hcur with _ hcur _
                              exact absurd hcur (by decide)
                            have hoe : OwnInts ((((w'.setCell ⟨P2, 0, none⟩ (.bool true)).setCell ⟨P2, 1, none⟩ (.int .i64 (tk + t.km))).setCell ⟨P2, 2, none⟩ (.int .i64 tc)).setCell ⟨P2, 3, none⟩ (.slice A2 (tw.length + 1) c2)) wv.heap.size A2 c2 (tw ++ [(i : Int)]) := ownsRow_setCell_other (ownsRow_setCell_other (ownsRow_setCell_other (ownsRow_setCell_other ho2 hne (a := ⟨P2, 0, none⟩) (.bool true)) hne (a := ⟨P2, 1, none⟩) (.int .i64 (tk + t.km))) hne (a := ⟨P2, 2, none⟩) (.int .i64 tc)) hne (a := ⟨P2, 3, none⟩) (.slice A2 (tw.length + 1) c2)
                            have HBOX := Lib.hid hbox
                            have HBE := Lib.hid hbe
                            have HOE := Lib.hid hoe
                            have HP2 := Lib.hid hP2
                            clear hP ho2 hG hP2 F5 F6 g1 g2 g3 g4 g5 g6 hag hdf hsz hsz2 hF hG0 hbox hbe hoe hne
                            refine wpAnyL_one (i := 20) rfl (by kernel_rfl) ?_
                            intro K hK
                            have HK := Lib.hid hK
                            clear hK
                            go_simp
                            refine HK.out.out _ _ (HSS.out _ HBE.out) (fun _ => ?_)
                            clear HK K
                            refine wpAnyL_done (by kernel_rfl) ?_
                            try simp only [Act.put]
                            go_wp2_with fail
                            go_meet
                            exact ⟨P2, A2, c2, rfl, HP2.out, Lib.hid (by simpa [Z100o] using HBOX.out), HOE, HBE⟩
                        case rest =>
                        obtain ⟨P2, A2, c2, rfl, hP2, hbox, hown, hB14⟩ := hcut
                        obtain ⟨wz, rfl⟩ : ∃ wz, wz = wc := ⟨_, rfl⟩
                        clear HSS HIA
                        obtain ⟨tn, htn⟩ : ∃ tn, tc + (if tg ≠ (ga : Int) then (1 : Int) else 0) = tn := ⟨_, rfl⟩
                        have HEXT : Hid (Pl.ext n R ((st : Int), (ga : Int)) ⟨tw, tk, tc⟩ i = ⟨tw ++ [(i : Int)], tk + t.km, tn⟩) := by
                          show Pl.ext _ _ _ _ _ = _
                          unfold Pl.ext
                          rw [HE0.out, HRR2.out, HCG.out, ← htn]
                          simp
                        have htn0 : 0 ≤ tn := by rw [← htn]; split <;> omega
                        have htn1 : tn ≤ 24 := by rw [← htn]; split <;> omega
                        have HEZ := Lib.hid (blk_below HEB8.out hB14.out (lt_of_block HEB8.out))
                        have q1 := blk_cell HEZ.out 1
                        have b2 : wz.cell? ⟨P2, 2, none⟩ = some (.int .i64 tc) := blk_cell hbox.out 2
                        have bf2 := blk_frozen hbox.out 2
                        have HTN := Lib.hid htn
                        clear htn
                        go_upto_if 95 with fail
                        go_cut [] (fun wx => Hid (wx.heap[P2]? = some (.cells #[.bool true, .int .i64 (tk + t.km), .int .i64 tn, .slice A2 (tw.length + 1) c2] 100 (0, 0))) ∧ Hid (OwnInts wx wv.heap.size A2 c2 (tw ++ [(i : Int)])) ∧ Hid (Below wv.heap.size wv wx))
                        case first =>
                          by_cases hgu : tg = (ga : Int)
                          · have hv : (tg != (ga : Int)) = false := by simp [hgu]
                            have htc : Hid (tc = tn) := by show tc = tn; rw [← HTN.out, if_neg (by simpa using hgu)]; omega
                            have hgr : (tg == (ga : Int)) = true := by simp [hgu]
                            go_wp2_with fail
                            go_meet
                            exact ⟨by rw [← htc.out]; exact hbox, hown, hB14⟩
                          · have hv : (tg != (ga : Int)) = true := by rw [bne_iff_ne]; exact hgu
                            have htc : Hid (tc + 1 = tn) := by show tc + 1 = tn; rw [← HTN.out, if_pos hgu]
                            go_wp2_with fail
                            go_meet
                            have hne : ∀ {k : Nat}, (Value.slice A2 k c2).ownBlock ≠ some P2 := fun e => by
                              obtain ⟨cur, hcur⟩ := int_row2 hown.out P2 ((own_any A2 _ _ c2).trans e)
                              rw [hbox.out] at hcur
                              injection hcur with hcur
                              injection hcur with _ hcur _
                              exact absurd hcur (by decide)
                            refine ⟨Lib.hid ?_, Lib.hid (ownsRow_setCell_other hown.out hne _), Lib.hid (hB14.out.setCell hP2 _)⟩
                            rw [← htc.out]
                            simpa using blk_set (w := wz) hbox.out (i := 2) (.int .i64 (tc + 1))
                        case rest =>
                        obtain ⟨hbox3, hown3, hB16⟩ := hcut
                        obtain ⟨wy, rfl⟩ : ∃ wy, wy = wc := ⟨_, rfl⟩
                        clear q1 b2 bf2 hbox hown hB14 HEZ
                        have HTY := Lib.hid (HT8.out.step hB16.out)
                        have HEY := Lib.hid (blk_below HEB8.out hB16.out (lt_of_block HEB8.out))
                        have HSY1 := Lib.hid (blk_below HSB8.out hB16.out (lt_of_block HSB8.out))
                        have HTY1 := Lib.hid (blk_below HTB8.out hB16.out (lt_of_block HTB8.out))
                        have hVS : Hid (w.heap.size + 3 < wv.heap.size) := HT8.out.lt
                        clear HT8 HEB8 HSB8 HTB8
                        obtain ⟨yt, yA, yc, hy, -, hyl, -, hIy⟩ := HTY.out.pick hN2l
                        have HY := Lib.hid hy
                        have HYI := Lib.hid hIy.ints
                        have HSY : Hid (∀ W, Below wy.heap.size wy W → ((W.cell? ⟨P2, 0, none⟩ = some (.bool true) ∧ W.cell? ⟨P2, 1, none⟩ = some (.int .i64 (tk + t.km)) ∧ W.cell? ⟨P2, 2, none⟩ = some (.int .i64 tn) ∧ W.cell? ⟨P2, 3, none⟩ = some (.slice A2 (tw.length + 1) c2)) ∧ (W.cell? ⟨E, 0, none⟩ = some (.int .i64 en) ∧ W.cell? ⟨E, 1, none⟩ = some (.int .i64 tg)) ∧ (W.cell? ⟨w.heap.size + 3, N2 * 4, none⟩ = some (.bool yt.isSome) ∧ W.cell? ⟨w.heap.size + 3, N2 * 4 + 1, none⟩ = some (.int .i64 (tKm yt)) ∧ W.cell? ⟨w.heap.size + 3, N2 * 4 + 2, none⟩ = some (.int .i64 (tCh yt)) ∧ W.cell? ⟨w.heap.size + 3, N2 * 4 + 3, none⟩ = some (.slice yA (tWay yt).length yc)))) := fun W hW => by
                          have h1 := (HTY.out.step hW).trips.pick hy
                          exact ⟨four_cells (blk_below hbox3.out hW (lt_of_block hbox3.out)), ⟨blk_cell (blk_below HEY.out hW (lt_of_block HEY.out)) 0, blk_cell (blk_below HEY.out hW (lt_of_block HEY.out)) 1⟩, ⟨h1.1, h1.2.1, h1.2.2.1, h1.2.2.2.1⟩⟩
                        have hown4 : OwnInts wy wv.heap.size A2 c2 (tw ++ [(i : Int)]) := hown3.out
                        have HOI := Lib.hid ((IntsN.of_own (S := fun _ => False) hown4 (fun _ _ e => e)).ints)
                        clear hIy hy hown4
                        obtain ⟨bt2, hbt2⟩ : ∃ b, Pl.beats ⟨tw ++ [(i : Int)], tk + t.km, tn⟩ yt = b := ⟨_, rfl⟩
                        have HBT := Lib.hid hbt2
                        clear hbt2
                        go_upto_region 22 with fail
                        go_cut [106] (fun v wx => v = .bool bt2 ∧ Hid (Below wy.heap.size wy wx))
                        case first =>
                          have hS := HSY.out _ (Below.refl _ _).drew
                          refine wp_region_L (by kernel_rfl) (fun W => ((W.cell? ⟨P2, 0, none⟩ = some (.bool true) ∧ W.cell? ⟨P2, 1, none⟩ = some (.int .i64 (tk + t.km)) ∧ W.cell? ⟨P2, 2, none⟩ = some (.int .i64 tn) ∧ W.cell? ⟨P2, 3, none⟩ = some (.slice A2 (tw.length + 1) c2)) ∧ (W.cell? ⟨E, 0, none⟩ = some (.int .i64 en) ∧ W.cell? ⟨E, 1, none⟩ = some (.int .i64 tg)) ∧ (W.cell? ⟨w.heap.size + 3, N2 * 4, none⟩ = some (.bool yt.isSome) ∧ W.cell? ⟨w.heap.size + 3, N2 * 4 + 1, none⟩ = some (.int .i64 (tKm yt)) ∧ W.cell? ⟨w.heap.size + 3, N2 * 4 + 2, none⟩ = some (.int .i64 (tCh yt)) ∧ W.cell? ⟨w.heap.size + 3, N2 * 4 + 3, none⟩ = some (.slice yA (tWay yt).length yc)))) [] ?_
                          refine wpAnyL_take (i := 0) (v := ?va_0) rfl (by kernel_rfl) (by kernel_rfl) (by kernel_rfl) (by kernel_rfl) (by rfl) (fun _ _ _ h => h) hS (Or.inl ⟨by rfl, ?hya_0⟩) ?hra_0
                          case hya_0 => (intro w hSw; (try dsimp only at hSw); go_simp; (try rfl))
                          simp only [List.getElem_toArray, List.getElem_cons_zero, Act.put, List.setIfInBounds_toArray, List.set_cons_zero, List.set_cons_succ]
                          refine wpAnyL_take (i := 1) (v := ?va_1) rfl (by kernel_rfl) (by kernel_rfl) (by kernel_rfl) (by kernel_rfl) (by rfl) (fun _ _ _ h => h) hS (Or.inl ⟨by rfl, ?hya_1⟩) ?hra_1
                          case hya_1 => (intro w hSw; (try dsimp only at hSw); go_simp; (try rfl))
                          simp only [List.getElem_toArray, List.getElem_cons_succ, List.getElem_cons_zero, Act.put, List.setIfInBounds_toArray, List.set_cons_zero, List.set_cons_succ]
                          refine wpAnyL_take (i := 2) (v := ?va_2) rfl (by kernel_rfl) (by kernel_rfl) (by kernel_rfl) (by kernel_rfl) (by rfl) (fun _ _ _ h => h) hS (Or.inl ⟨by rfl, ?hya_2⟩) ?hra_2
                          case hya_2 => (intro w hSw; (try dsimp only at hSw); go_simp; (try rfl))
                          simp only [List.getElem_toArray, List.getElem_cons_succ, List.getElem_cons_zero, Act.put, List.setIfInBounds_toArray, List.set_cons_zero, List.set_cons_succ]
                          refine wpAnyL_one (i := 3) rfl (by kernel_rfl) ?_
                          intro Kq hKq
                          go_simp
                          refine (number_any en tg _ he00 he05 (by omega) hg03).mono ?_
                          rintro e' v1 ⟨rfl, hb1⟩
                          rw [HNM2.out]
                          have HB1 : Hid (Below wy.heap.size wy v1) := (Below.refl wy.heap.size wy).drew.trans hb1
                          have hS := HSY.out _ HB1.out
                          refine hKq.out _ _ hS (fun _ => ?_)
                          clear hKq Kq hb1
                          try simp only [Act.put, List.setIfInBounds_toArray, List.set_cons_zero, List.set_cons_succ]
                          refine wpAnyL_take (i := 4) (v := ?va_4) rfl (by kernel_rfl) (by kernel_rfl) (by kernel_rfl) (by kernel_rfl) (by rfl) (fun _ _ _ h => h) hS (Or.inl ⟨by rfl, ?hya_4⟩) ?hra_4
                          case hya_4 => (intro w hSw; (try dsimp only at hSw); go_simp; (try rfl))
                          simp only [List.getElem_toArray, List.getElem_cons_succ, List.getElem_cons_zero, Act.put, List.setIfInBounds_toArray, List.set_cons_zero, List.set_cons_succ]
                          refine wpAnyL_take (i := 5) (v := ?va_5) rfl (by kernel_rfl) (by kernel_rfl) (by kernel_rfl) (by kernel_rfl) (by rfl) (fun _ _ _ h => h) hS (Or.inl ⟨by rfl, ?hya_5⟩) ?hra_5
                          case hya_5 => (intro w hSw; (try dsimp only at hSw); go_simp; (try rfl))
                          simp only [List.getElem_toArray, List.getElem_cons_succ, List.getElem_cons_zero, Act.put, List.setIfInBounds_toArray, List.set_cons_zero, List.set_cons_succ]
                          refine wpAnyL_one (i := 6) rfl (by kernel_rfl) ?_
                          intro Kq hKq
                          go_simp
                          refine (rbetter_lit (tw ++ [(i : Int)]) (tw.length + 1) (by simp) (tk + t.km) tn A2 c2 yt yA yc _ ((HOI.out.below HB1.out).more HB1.out.size) ((HYI.out.below HB1.out).more HB1.out.size) (by omega) hyl).mono ?_
                          rintro e' v2 ⟨rfl, hb2⟩
                          rw [HBT.out]
                          have HB2 : Hid (Below wy.heap.size wy v2) := HB1.out.trans (hb2.mono HB1.out.size)
                          refine hKq.out _ _ (HSY.out _ HB2.out) (fun _ => ?_)
                          clear hKq Kq hb2 hS
                          refine wpAnyL_done (by kernel_rfl) ?_
                          try simp only [Act.put]
                          go_wp2_with fail
                          go_meet
                          exact ⟨rfl, HB2⟩
                        case rest =>
                        obtain ⟨rfl, hB22⟩ := hcut
                        obtain ⟨wx, rfl⟩ : ∃ wx, wx = wc := ⟨_, rfl⟩
                        cases bt2 with
                        | false =>
                          have HMV : Hid (Pl.Rnd n R (fr, g) n.tracks.length Pl.spots L0 (Pl.Before st ga (i + 1)) (ls.map Tc.t) ch) := hR.out.move (fun p hp t' ht j hj hd hz => by
                            by_cases he : p = ((st : Int), (ga : Int)) ∧ j = i
                            · obtain ⟨rfl, rfl⟩ := he
                              right
                              intro o ho
                              rw [HNM.out, List.getElem?_map, hLN.out] at ht
                              obtain rfl : (⟨tw, tk, tc⟩ : Pl.Trip) = t' := by injection ht with ht; injection ht
                              rw [HRR2.out] at ho
                              simp only at ho
                              rw [HNM2.out, List.getElem?_map, HY.out] at ho
                              obtain rfl : yt = o := by injection ho
                              rw [HEXT.out]
                              exact HBT.out
                            · left
                              have he2 : ¬ (p.1 = st ∧ p.2 = ga ∧ j = i) := fun h => he ⟨Prod.ext h.1 h.2.1, h.2.2⟩
                              unfold Pl.Before at hd ⊢
                              omega)
                          go_wp2_with fail
                          go_roundw
                          case rel => exact ⟨i + 1, ls, ch, by omega, by go_num, rfl, HTY.out.step hB22.out, HMV, blk_below HSY1.out hB22.out (lt_of_block HSY1.out), blk_below HTY1.out hB22.out (lt_of_block HTY1.out), hLN⟩
                          case measure => simp [intOf]; omega
                        | true =>
                          have HMV : Hid (Pl.Rnd n R (fr, g) n.tracks.length Pl.spots L0 (Pl.Before st ga (i + 1)) ((ls.set N2 ⟨some ⟨tw ++ [(i : Int)], tk + t.km, tn⟩, A2, c2⟩).map Tc.t) true) := by
                            have h1 := hR.out.put (D' := Pl.Before st ga (i + 1)) HF.out hsp (t := ⟨tw, tk, tc⟩) (by rw [HNM.out, List.getElem?_map, hLN.out]; rfl) hil (by rw [HRR2.out]) (o := yt) (by rw [HRR2.out]; show (ls.map Tc.t)[Pl.numOf (en, tg)]? = _; rw [HNM2.out, List.getElem?_map, HY.out]; rfl) (by rw [HEXT.out]; exact HBT.out)
                            rw [HEXT.out, HRR2.out] at h1
                            rw [List.map_set]
                            rw [HNM2.out] at h1
                            exact h1
                          have HLN2 : Hid ((ls.set N2 ⟨some ⟨tw ++ [(i : Int)], tk + t.km, tn⟩, A2, c2⟩)[N]? = some ⟨some ⟨tw, tk, tc⟩, xA, xc⟩) := by
                            show _ = _
                            rw [List.getElem?_set_ne HNN.out]
                            exact hLN.out
                          have HWX := Lib.hid (hB16.out.trans (hB22.out.mono hB16.out.size))
                          have HSX : Hid (∀ W, Below wx.heap.size wx W → ((W.cell? ⟨P2, 0, none⟩ = some (.bool true) ∧ W.cell? ⟨P2, 1, none⟩ = some (.int .i64 (tk + t.km)) ∧ W.cell? ⟨P2, 2, none⟩ = some (.int .i64 tn) ∧ W.cell? ⟨P2, 3, none⟩ = some (.slice A2 (tw.length + 1) c2)) ∧ (W.cell? ⟨E, 0, none⟩ = some (.int .i64 en) ∧ W.cell? ⟨E, 1, none⟩ = some (.int .i64 tg)) ∧ (W.cell? ⟨w.heap.size + 3, N2 * 4, none⟩ = some (.bool yt.isSome) ∧ W.cell? ⟨w.heap.size + 3, N2 * 4 + 1, none⟩ = some (.int .i64 (tKm yt)) ∧ W.cell? ⟨w.heap.size + 3, N2 * 4 + 2, none⟩ = some (.int .i64 (tCh yt)) ∧ W.cell? ⟨w.heap.size + 3, N2 * 4 + 3, none⟩ = some (.slice yA (tWay yt).length yc))) ∧ Below wy.heap.size wy W) := fun W hW => ⟨HSY.out W (hB22.out.trans (hW.mono hB22.out.size)), hB22.out.trans (hW.mono hB22.out.size)⟩
                          go_upto_region 23 with fail
                          have hS : (wx.drew.cell? ⟨P2, 0, none⟩ = some (.bool true) ∧ wx.drew.cell? ⟨P2, 1, none⟩ = some (.int .i64 (tk + t.km)) ∧ wx.drew.cell? ⟨P2, 2, none⟩ = some (.int .i64 tn) ∧ wx.drew.cell? ⟨P2, 3, none⟩ = some (.slice A2 (tw.length + 1) c2)) ∧ (wx.drew.cell? ⟨E, 0, none⟩ = some (.int .i64 en) ∧ wx.drew.cell? ⟨E, 1, none⟩ = some (.int .i64 tg)) := by
                            obtain ⟨⟨h1, h2, -⟩, -⟩ := HSX.out _ (Below.refl _ _).drew
                            exact ⟨h1, h2⟩
                          refine wp_region_L (by kernel_rfl) (fun W => ((W.cell? ⟨P2, 0, none⟩ = some (.bool true) ∧ W.cell? ⟨P2, 1, none⟩ = some (.int .i64 (tk + t.km)) ∧ W.cell? ⟨P2, 2, none⟩ = some (.int .i64 tn) ∧ W.cell? ⟨P2, 3, none⟩ = some (.slice A2 (tw.length + 1) c2)) ∧ (W.cell? ⟨E, 0, none⟩ = some (.int .i64 en) ∧ W.cell? ⟨E, 1, none⟩ = some (.int .i64 tg)))) [] ?_
                          refine wpAnyL_take (i := 0) (v := ?vb_0) rfl (by kernel_rfl) (by kernel_rfl) (by kernel_rfl) (by kernel_rfl) (by rfl) (fun _ _ _ h => h) hS (Or.inl ⟨by rfl, ?hyb_0⟩) ?hrb_0
                          case hyb_0 => (intro w hSw; (try dsimp only at hSw); go_simp; (try rfl))
                          simp only [List.getElem_toArray, List.getElem_cons_zero, Act.put, List.setIfInBounds_toArray, List.set_cons_zero, List.set_cons_succ]
                          refine wpAnyL_take (i := 1) (v := ?vb_1) rfl (by kernel_rfl) (by kernel_rfl) (by kernel_rfl) (by kernel_rfl) (by rfl) (fun _ _ _ h => h) hS (Or.inl ⟨by rfl, ?hyb_1⟩) ?hrb_1
                          case hyb_1 => (intro w hSw; (try dsimp only at hSw); go_simp; (try rfl))
                          simp only [List.getElem_toArray, List.getElem_cons_succ, List.getElem_cons_zero, Act.put, List.setIfInBounds_toArray, List.set_cons_zero, List.set_cons_succ]
                          refine wpAnyL_take (i := 3) (v := ?vb_3) rfl (by kernel_rfl) (by kernel_rfl) (by kernel_rfl) (by kernel_rfl) (by rfl) (fun _ _ _ h => h) hS (Or.inl ⟨by rfl, ?hyb_3⟩) ?hrb_3
                          case hyb_3 => (intro w hSw; (try dsimp only at hSw); go_simp; (try rfl))
                          simp only [List.getElem_toArray, List.getElem_cons_succ, List.getElem_cons_zero, Act.put, List.setIfInBounds_toArray, List.set_cons_zero, List.set_cons_succ]
                          refine wpAnyL_one (i := 2) rfl (by kernel_rfl) ?_
                          intro Kq hKq
                          go_simp
                          refine (number_any en tg _ he00 he05 (by omega) hg03).mono ?_
                          rintro e' v1 ⟨rfl, hb1⟩
                          rw [HNM2.out]
                          have HB1 : Hid (Below wx.heap.size wx v1) := (Below.refl wx.heap.size wx).drew.trans hb1
                          obtain ⟨⟨h1, h2, ⟨z0, z1, z2, z3⟩⟩, hBy⟩ := HSX.out _ HB1.out
                          have hS := And.intro h1 h2
                          have HT1 := Lib.hid (HTY.out.step hBy)
                          have zf0 := tc_frozen HT1.out.trips (N2 * 4)
                          have zf1 := tc_frozen HT1.out.trips (N2 * 4 + 1)
                          have zf2 := tc_frozen HT1.out.trips (N2 * 4 + 2)
                          have zf3 := tc_frozen HT1.out.trips (N2 * 4 + 3)
                          have HBY := Lib.hid hBy
                          have HP : Hid (TrSt w ((((v1.setCell ⟨w.heap.size + 3, N2 * 4, none⟩ (.bool true)).setCell ⟨w.heap.size + 3, N2 * 4 + 1, none⟩ (.int .i64 (tk + t.km))).setCell ⟨w.heap.size + 3, N2 * 4 + 2, none⟩ (.int .i64 tn)).setCell ⟨w.heap.size + 3, N2 * 4 + 3, none⟩ (.slice A2 (tw.length + 1) c2)) n (some ⟨bt, ot, none⟩) n_sA n_tc n_sc c c_gA c_bA c_hA c_gc c_bc c_hc (ls.set N2 ⟨some ⟨tw ++ [(i : Int)], tk + t.km, tn⟩, A2, c2⟩)) := by
                            have hown5 : OwnInts v1 wv.heap.size A2 c2 (tw ++ [(i : Int)]) := own_below hown3.out hBy (Nat.le_refl _)
                            have h5 := HT1.out.put hN2l ⟨some ⟨tw ++ [(i : Int)], tk + t.km, tn⟩, A2, c2⟩ (IntsN.of_own hown5 (fun k hk e => by have := hVS.out; omega)) (by simp [tWay]; omega)
                            have hlen : (tWay (some (⟨tw ++ [(i : Int)], tk + t.km, tn⟩ : Pl.Trip))).length = tw.length + 1 := by simp [tWay]
                            rw [hlen] at h5
                            exact h5
                          have HX2 : Hid (((((v1.setCell ⟨w.heap.size + 3, N2 * 4, none⟩ (.bool true)).setCell ⟨w.heap.size + 3, N2 * 4 + 1, none⟩ (.int .i64 (tk + t.km))).setCell ⟨w.heap.size + 3, N2 * 4 + 2, none⟩ (.int .i64 tn)).setCell ⟨w.heap.size + 3, N2 * 4 + 3, none⟩ (.slice A2 (tw.length + 1) c2)).heap[X]? = some (.cells #[.int .i64 st, .int .i64 ga] 83 (0, 0))) :=
                            (put_other v1 (w.heap.size + 3) N2 _ _ _ _ X (by have := hlt0.out; omega)).trans (blk_below HSY1.out hBy (lt_of_block HSY1.out))
                          have HT2 : Hid (((((v1.setCell ⟨w.heap.size + 3, N2 * 4, none⟩ (.bool true)).setCell ⟨w.heap.size + 3, N2 * 4 + 1, none⟩ (.int .i64 (tk + t.km))).setCell ⟨w.heap.size + 3, N2 * 4 + 2, none⟩ (.int .i64 tn)).setCell ⟨w.heap.size + 3, N2 * 4 + 3, none⟩ (.slice A2 (tw.length + 1) c2)).heap[T]? = some (.cells #[.bool true, .int .i64 tk, .int .i64 tc, .slice xA tw.length xc] 100 (0, 0))) :=
                            (put_other v1 (w.heap.size + 3) N2 _ _ _ _ T (by have := hlt1.out; omega)).trans (blk_below HTY1.out hBy (lt_of_block HTY1.out))
                          have HSW : Hid ((((((v1.setCell ⟨w.heap.size + 3, N2 * 4, none⟩ (.bool true)).setCell ⟨w.heap.size + 3, N2 * 4 + 1, none⟩ (.int .i64 (tk + t.km))).setCell ⟨w.heap.size + 3, N2 * 4 + 2, none⟩ (.int .i64 tn)).setCell ⟨w.heap.size + 3, N2 * 4 + 3, none⟩ (.slice A2 (tw.length + 1) c2)).cell? ⟨P2, 0, none⟩ = some (.bool true) ∧ ((((v1.setCell ⟨w.heap.size + 3, N2 * 4, none⟩ (.bool true)).setCell ⟨w.heap.size + 3, N2 * 4 + 1, none⟩ (.int .i64 (tk + t.km))).setCell ⟨w.heap.size + 3, N2 * 4 + 2, none⟩ (.int .i64 tn)).setCell ⟨w.heap.size + 3, N2 * 4 + 3, none⟩ (.slice A2 (tw.length + 1) c2)).cell? ⟨P2, 1, none⟩ = some (.int .i64 (tk + t.km)) ∧ ((((v1.setCell ⟨w.heap.size + 3, N2 * 4, none⟩ (.bool true)).setCell ⟨w.heap.size + 3, N2 * 4 + 1, none⟩ (.int .i64 (tk + t.km))).setCell ⟨w.heap.size + 3, N2 * 4 + 2, none⟩ (.int .i64 tn)).setCell ⟨w.heap.size + 3, N2 * 4 + 3, none⟩ (.slice A2 (tw.length + 1) c2)).cell? ⟨P2, 2, none⟩ = some (.int .i64 tn) ∧ ((((v1.setCell ⟨w.heap.size + 3, N2 * 4, none⟩ (.bool true)).setCell ⟨w.heap.size + 3, N2 * 4 + 1, none⟩ (.int .i64 (tk + t.km))).setCell ⟨w.heap.size + 3, N2 * 4 + 2, none⟩ (.int .i64 tn)).setCell ⟨w.heap.size + 3, N2 * 4 + 3, none⟩ (.slice A2 (tw.length + 1) c2)).cell? ⟨P2, 3, none⟩ = some (.slice A2 (tw.length + 1) c2)) ∧ (((((v1.setCell ⟨w.heap.size + 3, N2 * 4, none⟩ (.bool true)).setCell ⟨w.heap.size + 3, N2 * 4 + 1, none⟩ (.int .i64 (tk + t.km))).setCell ⟨w.heap.size + 3, N2 * 4 + 2, none⟩ (.int .i64 tn)).setCell ⟨w.heap.size + 3, N2 * 4 + 3, none⟩ (.slice A2 (tw.length + 1) c2)).cell? ⟨E, 0, none⟩ = some (.int .i64 en) ∧ ((((v1.setCell ⟨w.heap.size + 3, N2 * 4, none⟩ (.bool true)).setCell ⟨w.heap.size + 3, N2 * 4 + 1, none⟩ (.int .i64 (tk + t.km))).setCell ⟨w.heap.size + 3, N2 * 4 + 2, none⟩ (.int .i64 tn)).setCell ⟨w.heap.size + 3, N2 * 4 + 3, none⟩ (.slice A2 (tw.length + 1) c2)).cell? ⟨E, 1, none⟩ = some (.int .i64 tg))) :=
                            ⟨four_cells ((put_other v1 (w.heap.size + 3) N2 _ _ _ _ P2 (by have := hVS.out; omega)).trans (blk_below hbox3.out hBy (lt_of_block hbox3.out))),
                              blk_cell ((put_other v1 (w.heap.size + 3) N2 _ _ _ _ E (by have := hlt0.out; have := HX8.out; omega)).trans (blk_below HEY.out hBy (lt_of_block HEY.out))) 0, blk_cell ((put_other v1 (w.heap.size + 3) N2 _ _ _ _ E (by have := hlt0.out; have := HX8.out; omega)).trans (blk_below HEY.out hBy (lt_of_block HEY.out))) 1⟩
                          refine hKq.out _ _ hS (fun _ => ?_)
                          clear hKq Kq hb1 h1 h2 hBy
                          try simp only [Act.put, List.setIfInBounds_toArray, List.set_cons_zero, List.set_cons_succ]
                          refine wpAnyL_take (i := 4) (v := ?vb_4) rfl (by kernel_rfl) (by kernel_rfl) (by kernel_rfl) (by kernel_rfl) (by rfl) (fun _ _ _ h => h) hS (Or.inl ⟨by rfl, ?hyb_4⟩) ?hrb_4
                          case hyb_4 => (intro w hSw; (try dsimp only at hSw); go_simp; (try rfl))
                          simp only [List.getElem_toArray, List.getElem_cons_succ, List.getElem_cons_zero, Act.put, List.setIfInBounds_toArray, List.set_cons_zero, List.set_cons_succ]
                          clear hS
                          refine wpAnyL_one (i := 5) rfl (by kernel_rfl) ?_
                          intro Kq hKq
                          go_simp
                          refine hKq.out _ _ HSW.out (fun _ => ?_)
                          clear hKq Kq
                          have hS := HSW.out
                          try simp only [Act.put, List.setIfInBounds_toArray, List.set_cons_zero, List.set_cons_succ]
                          refine wpAnyL_take (i := 6) (v := ?vb_6) rfl (by kernel_rfl) (by kernel_rfl) (by kernel_rfl) (by kernel_rfl) (by rfl) (fun _ _ _ h => h) hS (Or.inl ⟨by rfl, ?hyb_6⟩) ?hrb_6
                          case hyb_6 => (intro w hSw; (try dsimp only at hSw); go_simp; (try rfl))
                          simp only [List.getElem_toArray, List.getElem_cons_succ, List.getElem_cons_zero, Act.put, List.setIfInBounds_toArray, List.set_cons_zero, List.set_cons_succ]
                          refine wpAnyL_done (by kernel_rfl) ?_
                          try simp only [Act.put]
                          go_wp2_with fail
                          go_roundw
                          case rel => exact ⟨i + 1, ls.set N2 ⟨some ⟨tw ++ [(i : Int)], tk + t.km, tn⟩, A2, c2⟩, true, by omega, by go_num, rfl, HP, HMV, HX2, HT2, HLN2⟩
                          case measure => simp [intOf]; omega
                    · have hv : rrunVal (rrunOf ((st : Int), (ga : Int)) ((en, tg), cg, bar)) = .tuple #[.agg #[.int .i64 st, .int .i64 ga], .int .i64 bar] := by rw [rrun_no hz]; rfl
                      rw [hv] at hrun
                      have HRUN := Lib.hid hrun
                      have HMV := Lib.hid (HSK.out (by
                        by_cases hib : (i : Int) = but
                        · exact HBUT.out _ i hib
                        · rw [HON.out _ i hib, HRUN0.out]; exact hz))
                      have hbn : (bar != 0) = true := by rw [bne_iff_ne]; exact hz
                      clear hway hb23 hk0 hk3 hc0 hc23 hsp HRUN0 HSK hR hrun hv hz
                      go_wp2_with (go_at_call 88; refine HRUN.out.mono ?_; rintro e w5 ⟨rfl, hb5⟩; have HB5 := Lib.hid hb5; clear hb5 t0 t1 t2 t3 s0 s1 d0 d1 d2 d3 d4 d5 b0 b1 b2)
                      go_roundw
                      case rel => exact ⟨i + 1, ls, ch, by omega, by go_num, rfl, (hT.out.step HB5.out).step ((Below.refl _ _).alloc (Nat.le_refl _) _), HMV, blk_alloc (blk_below hSB.out HB5.out (lt_of_block hSB.out)) _, blk_alloc (blk_below hTB.out HB5.out (lt_of_block hTB.out)) _, hLN⟩
                      case measure => simp [intOf]; omega
                · obtain rfl : i = n.tracks.length := by omega
                  have hilf : decide ((n.tracks.length : Int) < (n.tracks.length : Int)) = false := by simp
                  have HMV : Hid (Pl.Rnd n R (fr, g) n.tracks.length Pl.spots L0 (Pl.Before st ((ga + 1 : Nat) : Int) 0) (ls.map Tc.t) ch) := hR.out.move (fun p hp t ht j hj hd hz => .inl (by
                    unfold Pl.Before at hd ⊢
                    omega))
                  clear t0 t1 t2 t3 hR hLN hSB hTB
                  go_wp2_with fail
                  go_roundw
                  case rel => exact ⟨ga + 1, ls, ch, by omega, by omega, by go_num, rfl, hT, HMV⟩
                  case measure => simp [intOf]; omega
            · obtain rfl : ga = 4 := by omega
              have hg4 : decide (((4 : Nat) : Int) ≤ 3) = false := by decide
              have HMV : Hid (Pl.Rnd n R (fr, g) n.tracks.length Pl.spots L0 (Pl.Before ((st + 1 : Nat) : Int) 1 0) (ls.map Tc.t) ch) := hR.out.move (fun p hp t ht j hj hd hz => .inl (by
                have := Pl.mem_spots.1 hp
                unfold Pl.Before at hd ⊢
                omega))
              clear hR
              go_wp2_with fail
              go_roundw
              case rel => exact ⟨st + 1, ls, ch, by omega, by go_num, rfl, hT, HMV⟩
              case measure => simp [intOf]; omega
        · have hst2 : decide ((st : Int) < n.stops) = false := decide_eq_false hst1
          have hse : (st : Int) = n.stops := by omega
          have hN : Hid (ch = false → Pl.Still n R n.tracks.length Pl.spots (ls.map Tc.t)) := fun e => HSTL.out L0 _ 1 0 (by
            subst e
            rw [← hse]
            exact hR.out)
          have hCo := Lib.hid hR.out.cells
          have hKK : Hid (ch = true → Pl.costs n R (fr, g) n.tracks.length (ls.map Tc.t) < gk - 1) := fun e => by
            have h1 := hR.out.less e
            have h2 := hK0.out
            omega
          have hgk : Hid (0 < gk) := by show 0 < gk; have := hK0.out; omega
          clear hse hR
          go_wp2_with fail
          go_roundg (gk - 1)
          case measure => have := hgk.out; omega
          case rel => exact ⟨ls, ch, rfl, hT, hCo, hN, hKK⟩
end Go.Proofs.YtpbjpochjagicaaGreat
