/- Walks: the walk over all ways, by induction. -/
import Derived.Test.YtpbjpochjagicaaGreatDoorRRW29
import Derived.Deep.DeepCutAuto
namespace Go.Proofs.YtpbjpochjagicaaGreatDoorRR
open Go.RowKit

/-- What the walk asks of a net, a car and the places. -/
structure WayIn (n : Pl.Nt) (c : Pl.Cch) (U : List Pl.Place) : Prop where
  lenU : U.length ≤ 24
  lenT : n.tracks.length ≤ 8
  close : ∀ x ∈ U, ∀ i, i < n.tracks.length → (Pl.run n c [] x i).2.2 = 0 → (Pl.run n c [] x i).1 ∈ U
  km : ∀ t ∈ n.tracks, 1 ≤ t.km ∧ t.km ≤ 99

/-- What the walk asks of a trip and of what is met. -/
structure TripIn (U : List Pl.Place) (f : Nat) (met : List Pl.Place) (p : Pl.Place) (t : Pl.Trip) : Prop where
  pin : p ∈ U
  pnot : p ∉ met
  nd : met.Nodup
  sub : ∀ x ∈ met, x ∈ U
  fuel : U.length ≤ f + met.length
  way : t.way.length ≤ met.length
  km0 : 0 ≤ t.km
  km1 : t.km ≤ 99 * met.length
  ch0 : 0 ≤ t.changes
  ch1 : t.changes ≤ met.length
theorem TripIn.bound {U : List Pl.Place} {f : Nat} {met : List Pl.Place} {p : Pl.Place} {t : Pl.Trip} (h : TripIn U f met p t) : met.length + 1 ≤ U.length := by
  have := Pl.length_le_of_nodup_subset (p :: met) U (List.nodup_cons.2 ⟨h.pnot, h.nd⟩) (fun x hx => by
    rcases List.mem_cons.1 hx with rfl | hx
    · exact h.pin
    · exact h.sub x hx)
  simpa using this
theorem TripIn.next {U : List Pl.Place} {f : Nat} {met : List Pl.Place} {p q : Pl.Place} {t : Pl.Trip} (h : TripIn U (f + 1) met p t) (hq : q ∈ U) (hn : q ∉ met ++ [p]) {km : Int} (h1 : 1 ≤ km) (h2 : km ≤ 99) {d : Int} (d0 : 0 ≤ d) (d1 : d ≤ 1) (k : Int) :
    TripIn U f (met ++ [p]) q ⟨t.way ++ [k], t.km + km, t.changes + d⟩ := by
  obtain ⟨a1, a2, a3, a4, a5, a6, a7, a8, a9, a10⟩ := h
  refine ⟨hq, hn, ?_, ?_, by simp; omega, by simp; omega, by simp; omega, by simp; omega, by simp; omega, by simp; omega⟩
  · rw [List.nodup_append]
    refine ⟨a3, by simp, fun a ha b hb => ?_⟩
    simp at hb; subst hb; rintro rfl; exact a2 ha
  · intro x hx
    rcases List.mem_append.1 hx with hx | hx
    · exact a4 x hx
    · simp at hx; subst hx; exact a1

/-- The walk's contract, at fuel f. -/
def WalkSaid (w0 : World) (bg bf bm bB bn bx bw : Nat) (n : Pl.Nt) (c : Pl.Cch) (ds : Int) (U : List Pl.Place) (f : Nat) : Prop :=
  ∀ (p : Pl.Place) (t : Pl.Trip) (tA : Option Addr) (tc : Nat) (w : World) (ts : List Pl.Trip) (es : List (Pl.Place × Nat)) (ck : Nat) (r : Option Nat), WalkAt w0 bf bB w ts es ck r → IntsN w (Sx bf bB r) tA t.way → t.way.length ≤ tc → TripIn U f (es.map Prod.fst) p t →
    ts.length + (Pl.dfs n (Pl.run n c []) ds f (es.map Prod.fst) p t).length ≤ tripMax →
    Calls Tryz.prog 31 #[.agg #[.int .i64 p.1, .int .i64 p.2], .agg #[.slice tA t.way.length tc, .int .i64 t.km, .int .i64 t.changes], .pointer (some ⟨bg, 0, none⟩), .pointer (some ⟨bf, 0, none⟩), .pointer (some ⟨bm, 0, none⟩), .pointer (some ⟨bn, 0, none⟩), .pointer (some ⟨bx, 0, none⟩), .pointer (some ⟨bw, 0, none⟩)] w
      (WalkPost w0 bf bB w (ts ++ Pl.dfs n (Pl.run n c []) ds f (es.map Prod.fst) p t) es r)

/-- The trip on to the next place. -/
structure MoreAt (w2 wx : World) (Y g' c' : Nat) (tw : List Int) (k : Nat) (km ch : Int) : Prop where
  bel : Below w2.heap.size w2 wx
  box : wx.heap[Y]? = some (.cells #[.slice (some ⟨g', 0, none⟩) (tw.length + 1) c', .int .i64 km, .int .i64 ch] 72 (0, 0))
  hY : w2.heap.size ≤ Y
  own : OwnInts wx w2.heap.size (some ⟨g', 0, none⟩) c' (tw ++ [(k : Int)])

theorem own_less {w : World} {b b' : Nat} {A : Option Addr} {c : Nat} {xs : List Int} (h : OwnInts w b A c xs) (hb : b' ≤ b) : OwnInts w b' A c xs := by
  refine ⟨h.1, ?_⟩
  rcases h.2 with h2 | ⟨g, cap, cur, hv, hg, r⟩
  · exact .inl h2
  · exact .inr ⟨g, cap, cur, hv, by omega, r⟩
theorem own_set {w : World} {b : Nat} {A : Option Addr} {c : Nat} {xs : List Int} (h : OwnInts w b A c xs) {q : Nat} {z : Array Value} (hq : w.heap[q]? = some (.cells z 72 (0, 0))) (i : Nat) (u : Value) : OwnInts (w.setCell ⟨q, i, none⟩ u) b A c xs := by
  refine ⟨h.1, ?_⟩
  rcases h.2 with h2 | ⟨g, cap, cur, hv, hg, hh, r⟩
  · exact .inl h2
  · refine .inr ⟨g, cap, cur, hv, hg, (Below.heap_setCell _ _ _ g (fun e => ?_)).trans hh, r⟩
    subst e
    rw [hq] at hh; injection hh with hh; injection hh with _ hh _; cases hh
theorem more_new {w2 w3 : World} {base g' c' : Nat} {tw : List Int} {k : Nat} (km ch : Int) (hb : Below w2.heap.size w2 w3) (hown : OwnInts w3 base (some ⟨g', 0, none⟩) c' (tw ++ [(k : Int)])) (hbase : w2.heap.size ≤ base) :
    MoreAt w2 (w3.alloc (.cells #[.slice (some ⟨g', 0, none⟩) (tw.length + 1) c', .int .i64 km, .int .i64 ch] 72)) w3.heap.size g' c' tw k km ch :=
  ⟨hb.alloc hb.size _, heap_alloc_new _ _, hb.size, own_alloc (own_less hown hbase) _⟩
theorem more_set {w2 w3 : World} {base g' c' q : Nat} {tw : List Int} {k : Nat} (km ch : Int) (hb : Below w2.heap.size w2 w3) (hown : OwnInts w3 base (some ⟨g', 0, none⟩) c' (tw ++ [(k : Int)])) (hbase : w2.heap.size ≤ base)
    (ql : w3.heap[q]? = some (.cells #[.slice none 0 0, .int .i64 0, .int .i64 0] 72 (0, 0))) (hq : w2.heap.size ≤ q) :
    MoreAt w2 (((w3.setCell ⟨q, 0, none⟩ (.slice (some ⟨g', 0, none⟩) (tw.length + 1) c')).setCell ⟨q, 1, none⟩ (.int .i64 km)).setCell ⟨q, 2, none⟩ (.int .i64 ch)) q g' c' tw k km ch := by
  have h1 := blk_set (i := 0) ql (.slice (some ⟨g', 0, none⟩) (tw.length + 1) c')
  have h2 := blk_set (i := 1) h1 (.int .i64 km)
  have h3 := blk_set (i := 2) h2 (.int .i64 ch)
  exact ⟨((hb.setCell (p := ⟨q, 0, none⟩) hq _).setCell (p := ⟨q, 1, none⟩) hq _).setCell (p := ⟨q, 2, none⟩) hq _, h3, hq, own_set (own_set (own_set (own_less hown hbase) ql _ _) h1 _ _) h2 _ _⟩
theorem el1 (w1 : World) (A : Obj) (v : Value) (t : TypeId) : ((w1.alloc A).alloc (.cells #[v] t)).drew.cell? ⟨w1.heap.size + 1, 0, none⟩ = some v := by
  have := heap_alloc_new (w1.alloc A) (.cells #[v] t)
  rw [World.size_alloc] at this
  exact blk_cell this 0
theorem el2 (w1 : World) (A Z : Obj) (v : Value) (t : TypeId) : (((w1.alloc A).alloc (.cells #[v] t)).alloc Z).drew.cell? ⟨w1.heap.size + 1, 0, none⟩ = some v := by
  have := heap_alloc_new (w1.alloc A) (.cells #[v] t)
  rw [World.size_alloc] at this
  exact blk_cell (blk_alloc this Z) 0
theorem el3 (w1 : World) (A Z : Obj) (v : Value) (t : TypeId) : (((w1.alloc A).alloc Z).alloc (.cells #[v] t)).drew.cell? ⟨w1.heap.size + 1 + 1, 0, none⟩ = some v := by
  have := heap_alloc_new ((w1.alloc A).alloc Z) (.cells #[v] t)
  rw [World.size_alloc, World.size_alloc] at this
  exact blk_cell this 0
def ZeroAt (w3 : World) (q : Nat) : Prop :=
  w3.cell? ⟨q, 0, none⟩ = some (.slice none 0 0) ∧ w3.cell? ⟨q, 1, none⟩ = some (.int .i64 0) ∧ w3.cell? ⟨q, 2, none⟩ = some (.int .i64 0) ∧ w3.frozen? ⟨q, 0, none⟩ = false ∧ w3.frozen? ⟨q, 1, none⟩ = false ∧ w3.frozen? ⟨q, 2, none⟩ = false ∧ w3.heap[q]? = some (.cells #[.slice none 0 0, .int .i64 0, .int .i64 0] 72 (0, 0))
theorem zero_of {w3 : World} {q : Nat} (h : w3.heap[q]? = some (.cells #[.slice none 0 0, .int .i64 0, .int .i64 0] 72 (0, 0))) : ZeroAt w3 q :=
  ⟨blk_cell h 0, blk_cell h 1, blk_cell h 2, blk_frozen h 0, blk_frozen h 1, blk_frozen h 2, h⟩
theorem zero_first {w1 w3 : World} {A K : Obj} (hb : Below (((w1.alloc A).alloc (.cells #[.slice none 0 0, .int .i64 0, .int .i64 0] 72)).alloc K).drew.heap.size (((w1.alloc A).alloc (.cells #[.slice none 0 0, .int .i64 0, .int .i64 0] 72)).alloc K).drew w3) : ZeroAt w3 (w1.heap.size + 1) := by
  have h1 := heap_alloc_new (w1.alloc A) (.cells #[.slice none 0 0, .int .i64 0, .int .i64 0] 72)
  rw [World.size_alloc] at h1
  have h2 : (((w1.alloc A).alloc (.cells #[.slice none 0 0, .int .i64 0, .int .i64 0] 72)).alloc K).drew.heap[w1.heap.size + 1]? = _ := blk_alloc h1 K
  exact zero_of (blk_below h2 hb (lt_of_block h2))
theorem zero_second {w1 w3 : World} {A K : Obj} (hb : Below (((w1.alloc A).alloc K).alloc (.cells #[.slice none 0 0, .int .i64 0, .int .i64 0] 72)).drew.heap.size (((w1.alloc A).alloc K).alloc (.cells #[.slice none 0 0, .int .i64 0, .int .i64 0] 72)).drew w3) : ZeroAt w3 (w1.heap.size + 1 + 1) := by
  have h1 := heap_alloc_new ((w1.alloc A).alloc K) (.cells #[.slice none 0 0, .int .i64 0, .int .i64 0] 72)
  rw [World.size_alloc, World.size_alloc] at h1
  have h2 : (((w1.alloc A).alloc K).alloc (.cells #[.slice none 0 0, .int .i64 0, .int .i64 0] 72)).drew.heap[w1.heap.size + 1 + 1]? = _ := h1
  exact zero_of (blk_below h2 hb (lt_of_block h2))

set_option maxRecDepth 100000 in
set_option maxHeartbeats 8000000 in
theorem walk_on {w0 : World} {bg bf bm bB bn bx bw X N B0 : Nat} (c : Pl.Cch) (c_gA c_bA c_hA : Option Addr) (c_gc c_bc c_hc : Nat) (n : Pl.Nt) (n_tA n_sA : Option Addr) (n_tc n_sc : Nat) {ds : Int} (hF : WayFix w0 bg bf bm bB bn bx bw X N B0 c c_gA c_bA c_hA c_gc c_bc c_hc n n_tA n_sA n_tc n_sc ds) {U : List Pl.Place} (hI : WayIn n c U) (f : Nat) (hIH : WalkSaid w0 bg bf bm bB bn bx bw n c ds U f)
    (p : Pl.Place) (t : Pl.Trip) (tA : Option Addr) (tc : Nat) (w : World) (ts : List Pl.Trip) (es : List (Pl.Place × Nat)) (ck : Nat) (r : Option Nat) (h : WalkAt w0 bf bB w ts es ck r) (ht : IntsN w (Sx bf bB r) tA t.way) (hcap : t.way.length ≤ tc) (hT : TripIn U (f + 1) (es.map Prod.fst) p t)
    (hmax : ts.length + (dfsTo n (Pl.run n c []) ds f (es.map Prod.fst) p t n.tracks.length).length ≤ tripMax) (hne : p.1 ≠ ds) :
    Calls Tryz.prog 31 #[.agg #[.int .i64 p.1, .int .i64 p.2], .agg #[.slice tA t.way.length tc, .int .i64 t.km, .int .i64 t.changes], .pointer (some ⟨bg, 0, none⟩), .pointer (some ⟨bf, 0, none⟩), .pointer (some ⟨bm, 0, none⟩), .pointer (some ⟨bn, 0, none⟩), .pointer (some ⟨bx, 0, none⟩), .pointer (some ⟨bw, 0, none⟩)] w
      (WalkPost w0 bf bB w (ts ++ dfsTo n (Pl.run n c []) ds f (es.map Prod.fst) p t n.tracks.length) es r) := by
  have x0 : w.cell? ⟨bg, 0, none⟩ = some (.int .i64 ds) := blk_cell (hF.blk h (by simp) hF.goal) 0
  have hbg := lt_of_block (hF.blk h (by simp) hF.goal)
  have hbmw := hF.blk h (by simp) hF.mbox
  have hbm := lt_of_block hbmw
  have hbnw := hF.blk h (by simp) hF.net
  have hbn := lt_of_block hbnw
  have hbA : Below w.heap.size w ((w.alloc (.cells #[.int .i64 p.1, .int .i64 p.2] 64)).alloc (.cells #[.slice tA t.way.length tc, .int .i64 t.km, .int .i64 t.changes] 72)) := ((Below.refl w.heap.size w).alloc (Nat.le_refl _) _).alloc (by simp) _
  have hA := h.below hbA
  have hput := run_put hA.map p hT.pnot
  simp only [pv] at hput
  have hS1 := hA.setMap (es ++ [(p, ck)]) (ck + 1)
  have hKp : KeptN bf bB r w (setMap ((w.alloc (.cells #[.int .i64 p.1, .int .i64 p.2] 64)).alloc (.cells #[.slice tA t.way.length tc, .int .i64 t.km, .int .i64 t.changes] 72)) bB (es ++ [(p, ck)]) (ck + 1)) := (KeptN.below hbA).trans hS1.2 (.inl rfl)
  have hBlt := h.map.lt
  have hP1 : (setMap ((w.alloc (.cells #[.int .i64 p.1, .int .i64 p.2] 64)).alloc (.cells #[.slice tA t.way.length tc, .int .i64 t.km, .int .i64 t.changes] 72)) bB (es ++ [(p, ck)]) (ck + 1)).heap[w.heap.size]? = some (.cells #[.int .i64 p.1, .int .i64 p.2] 64 (0, 0)) :=
    (setMap_far _ _ (by omega)).trans (blk_alloc (heap_alloc_new w _) _)
  have hP2 : (setMap ((w.alloc (.cells #[.int .i64 p.1, .int .i64 p.2] 64)).alloc (.cells #[.slice tA t.way.length tc, .int .i64 t.km, .int .i64 t.changes] 72)) bB (es ++ [(p, ck)]) (ck + 1)).heap[w.heap.size + 1]? = some (.cells #[.slice tA t.way.length tc, .int .i64 t.km, .int .i64 t.changes] 72 (0, 0)) := by
    refine (setMap_far _ _ (by omega)).trans ?_
    have := heap_alloc_new (w.alloc (.cells #[.int .i64 p.1, .int .i64 p.2] 64)) (.cells #[.slice tA t.way.length tc, .int .i64 t.km, .int .i64 t.changes] 72)
    simpa using this
  have hs3 : (setMap ((w.alloc (.cells #[.int .i64 p.1, .int .i64 p.2] 64)).alloc (.cells #[.slice tA t.way.length tc, .int .i64 t.km, .int .i64 t.changes] 72)) bB (es ++ [(p, ck)]) (ck + 1)).heap.size = w.heap.size + 1 + 1 := by rw [size_setMap]; simp
  have hnet3 : (setMap ((w.alloc (.cells #[.int .i64 p.1, .int .i64 p.2] 64)).alloc (.cells #[.slice tA t.way.length tc, .int .i64 t.km, .int .i64 t.changes] 72)) bB (es ++ [(p, ck)]) (ck + 1)).cell? ⟨bn, 1, none⟩ = some (.slice n_tA n.tracks.length n_tc) := blk_cell (hF.blk hS1.1 (by simp) hF.net) 1
  have y0 : ((w.alloc (.cells #[.int .i64 p.1, .int .i64 p.2] 64)).alloc (.cells #[.slice tA t.way.length tc, .int .i64 t.km, .int .i64 t.changes] 72)).cell? ⟨bm, 0, none⟩ = some (.map (some bB)) := blk_cell (blk_alloc (blk_alloc hbmw _) _) 0
  have e1 : (p.1 == ds) = false := by rw [beq_eq_false_iff_ne]; exact hne
  obtain ⟨W3, hW3⟩ : ∃ W3, W3 = setMap ((w.alloc (.cells #[.int .i64 p.1, .int .i64 p.2] 64)).alloc (.cells #[.slice tA t.way.length tc, .int .i64 t.km, .int .i64 t.changes] 72)) bB (es ++ [(p, ck)]) (ck + 1) := ⟨_, rfl⟩
  rw [← hW3] at hput hKp hP1 hP2 hs3 hnet3
  have hS := hS1.1
  rw [← hW3] at hS
  have Hh := Lib.hid h; have HF := Lib.hid hF; have Ht := Lib.hid ht; have HT := Lib.hid hT; have Hmax := Lib.hid hmax; have HIH := Lib.hid hIH; have HI := Lib.hid hI; have HKp := Lib.hid hKp; have HS := Lib.hid hS; have HP1 := Lib.hid hP1; have HP2 := Lib.hid hP2
  clear h hF ht hT hmax hIH hI hKp hS hS1 hA hbA hW3 hne hbmw hbnw hP1 hP2
  obtain ⟨ps, pg⟩ := p
  obtain ⟨tw, tk, th⟩ := t
  simp only at *
  go_enter Tryz.func31, Tryz.ntmps31
  go_wp2_with fail
  have HR0 : Hid (RowOk (w.heap.size + 1 + 1) r r) := .inl rfl
  have HS0 : Hid (WalkAt w0 bf bB W3 (ts ++ dfsTo n (Pl.run n c []) ds f (es.map Prod.fst) (ps, pg) ⟨tw, tk, th⟩ 0) (es ++ [((ps, pg), ck)]) (ck + 1) r) := by
    show WalkAt _ _ _ _ _ _ _ _
    simpa [dfsTo] using HS.out
  clear x0 hput hnet3 y0
  go_loopw [36] (fun i wl => ∃ (k ckl : Nat) (rl : Option Nat), k ≤ n.tracks.length ∧ i = .int .i64 k ∧ Hid (WalkAt w0 bf bB wl (ts ++ dfsTo n (Pl.run n c []) ds f (es.map Prod.fst) (ps, pg) ⟨tw, tk, th⟩ k) (es ++ [((ps, pg), ck)]) ckl rl) ∧ Hid (KeptN bf bB r w wl) ∧ Hid (RowOk (w.heap.size + 1 + 1) r rl) ∧
      Hid (wl.heap[w.heap.size]? = some (.cells #[.int .i64 ps, .int .i64 pg] 64 (0, 0))) ∧ Hid (wl.heap[w.heap.size + 1]? = some (.cells #[.slice tA tw.length tc, .int .i64 tk, .int .i64 th] 72 (0, 0))) ∧ w.heap.size + 1 + 1 ≤ wl.heap.size)
    (fun i _ => n.tracks.length - (intOf i).toNat)
  case atStart => exact ⟨0, ck + 1, r, Nat.zero_le _, rfl, HS0, HKp, HR0, HP1, HP2, by omega⟩
  case round =>
    obtain ⟨k, ckl, rl, hk, rfl, hS, hKl, hR, hB1, hB2, hsl⟩ := hrel
    clear HS0 HKp HR0 HP1 HP2 HS hs3
    obtain ⟨wl, rfl⟩ : ∃ wl : World, wl = wr := ⟨_, rfl⟩
    by_cases hlt : k < n.tracks.length
    · have hki : (k : Int) < (n.tracks.length : Int) := by omega
      have hwl : w.heap.size < wl.heap.size := by omega
      have hwl1 : w.heap.size + 1 < wl.heap.size := by omega
      have hfar := HF.out.far hS.out
      obtain ⟨b, off, htA, hbw, hcell⟩ : ∃ b off, n_tA = some ⟨b, off, none⟩ ∧ b < wl.heap.size ∧ ∀ j v, (trkCells n.tracks[k])[j]? = some v → wl.cell? ⟨b, off + k * 9 + j, none⟩ = some v := by
        obtain ⟨b, off, h1, h2, h3⟩ := hfar.2.1.tracks k _ (List.getElem?_eq_getElem hlt)
        exact ⟨b, off, h1, h2, h3⟩
      have hbx := lt_of_block (HF.out.blk hS.out (by simp) HF.out.ptr)
      have hbw' := lt_of_block (HF.out.blk hS.out (by simp) HF.out.wbox)
      have hbml := lt_of_block (HF.out.blk hS.out (by simp) HF.out.mbox)
      have v0 : wl.cell? ⟨bx, 0, none⟩ = some (.pointer (some ⟨X, 0, none⟩)) := blk_cell (HF.out.blk hS.out (by simp) HF.out.ptr) 0
      have z0 : wl.cell? ⟨w.heap.size, 0, none⟩ = some (.int .i64 ps) := blk_cell hB1.out 0
      have z1 : wl.cell? ⟨w.heap.size, 1, none⟩ = some (.int .i64 pg) := blk_cell hB1.out 1
      have hTk : Pl.run n c [] (ps, pg) k = Pl.run n c [] (ps, pg) k := rfl
      have hT8 := HI.out.lenT
      have hkm := HI.out.km n.tracks[k] (List.getElem_mem hlt)
      have hgd : n.tracks.getD k default = n.tracks[k] := by rw [List.getD_eq_getElem?_getD, List.getElem?_eq_getElem hlt]; rfl
      have hsk := dfsAt_skip (n := n) (r := Pl.run n c []) (ds := ds) (f := f) (met := es.map Prod.fst) (p := (ps, pg)) (t := ⟨tw, tk, th⟩) (i := k)
      have hgo := dfsAt_go (n := n) (r := Pl.run n c []) (ds := ds) (f := f) (met := es.map Prod.fst) (p := (ps, pg)) (t := ⟨tw, tk, th⟩) (i := k)
      rw [hgd] at hgo
      have hclose := HI.out.close (ps, pg) HT.out.pin k hlt
      have hrun := fun (W : World) h1 h2 h3 => run_any X N c c_gA c_bA c_hA c_gc c_bc c_hc n n_tA n_sA n_tc n_sc none [] 0 (ps, pg) k hlt W h1 h2 h3 (Ints.nil _ _ _) (by simp)
      have hle := dfsTo_le n (Pl.run n c []) ds f (es.map Prod.fst) (ps, pg) ⟨tw, tk, th⟩ (show k + 1 ≤ n.tracks.length by omega)
      have hsucc := dfsTo_succ n (Pl.run n c []) ds f (es.map Prod.fst) (ps, pg) ⟨tw, tk, th⟩ k
      generalize n.tracks[k] = tr at hcell hkm hgo
      obtain ⟨c0, c1, c2, c3, c4, c5, c6, c7, c8⟩ := trk_cells (w := wl) (b := b) (o := off + k * 9) (t := tr) (fun i v hv => hcell i v hv)
      clear hcell hTk hgd
      have hbT : Below wl.heap.size wl (wl.alloc (.cells #[.int .i64 tr.a, .int .i64 tr.b, .int .i64 tr.km, .int .i64 tr.gauge, .int .i64 tr.room, .int .i64 tr.brake, .int .i64 tr.heat, .int .i64 tr.load, .bool tr.ferry] 31)) := (Below.refl _ _).alloc (Nat.le_refl _) _
      have hST := hS.out.below hbT
      have hfT := HF.out.far hST
      have hcall := hrun _ hfT.1 hfT.2.2 hfT.2.1
      clear hrun hfar hfT
      generalize Pl.run n c [] (ps, pg) k = rr at hcall hsk hgo hclose
      obtain ⟨⟨s, g⟩, chg, bar⟩ := rr
      simp only [runVal] at hcall
      simp only at hsk hgo hclose
      have hkeep : ∀ w', Below wl.heap.size wl w' → WalkAt w0 bf bB w' (ts ++ dfsTo n (Pl.run n c []) ds f (es.map Prod.fst) (ps, pg) ⟨tw, tk, th⟩ k) (es ++ [((ps, pg), ck)]) ckl rl ∧ KeptN bf bB r w w' ∧
          w'.heap[w.heap.size]? = some (.cells #[.int .i64 ps, .int .i64 pg] 64 (0, 0)) ∧ w'.heap[w.heap.size + 1]? = some (.cells #[.slice tA tw.length tc, .int .i64 tk, .int .i64 th] 72 (0, 0)) ∧ w.heap.size + 1 + 1 ≤ w'.heap.size := by
        intro w' hb'
        refine ⟨hS.out.below hb', KeptN.trans (r' := rl) hKl.out (KeptN.below hb') ?_, blk_below hB1.out hb' (by omega), blk_below hB2.out hb' (by omega), Nat.le_trans hsl hb'.size⟩
        rcases hR.out with h1 | ⟨q, h1, h2⟩
        · exact .inl h1
        · exact .inr ⟨q, h1, by omega⟩
      have HKeep := Lib.hid hkeep; have HCall := Lib.hid hcall; have Hsk := Lib.hid hsk; have Hgo := Lib.hid hgo; have Hclose := Lib.hid hclose; have Hle := Lib.hid hle; have Hsucc := Lib.hid hsucc; have HbT := Lib.hid hbT; have HST := Lib.hid hST
      clear hkeep hcall hsk hgo hclose hle hsucc hbT hST
      subst htA
      have hfst : (es ++ [((ps, pg), ck)]).map Prod.fst = es.map Prod.fst ++ [(ps, pg)] := by simp
      have hlk : ∀ w1, Below (wl.alloc (.cells #[.int .i64 tr.a, .int .i64 tr.b, .int .i64 tr.km, .int .i64 tr.gauge, .int .i64 tr.room, .int .i64 tr.brake, .int .i64 tr.heat, .int .i64 tr.load, .bool tr.ferry] 31)).heap.size (wl.alloc (.cells #[.int .i64 tr.a, .int .i64 tr.b, .int .i64 tr.km, .int .i64 tr.gauge, .int .i64 tr.room, .int .i64 tr.brake, .int .i64 tr.heat, .int .i64 tr.load, .bool tr.ferry] 31)) w1 →
          Hid (Below wl.heap.size wl (w1.alloc (.cells #[.int .i64 s, .int .i64 g] 64))) ∧ wl.heap.size + 1 ≤ w1.heap.size ∧
          (Instr.lookup 61 (.map (some bB)) (.agg #[.int .i64 s, .int .i64 g]) false).run Tryz.prog (w1.alloc (.cells #[.int .i64 s, .int .i64 g] 64)) = .ok (.bool (decide ((s, g) ∈ es.map Prod.fst ++ [(ps, pg)]))) (w1.alloc (.cells #[.int .i64 s, .int .i64 g] 64)) ∧
          (w1.alloc (.cells #[.int .i64 s, .int .i64 g] 64)).cell? ⟨bm, 0, none⟩ = some (.map (some bB)) := by
        intro w1 hb1
        have hs1 := hb1.size
        simp only [World.size_alloc] at hs1
        have hbz : Below wl.heap.size wl (w1.alloc (.cells #[.int .i64 s, .int .i64 g] 64)) := (HbT.out.trans (hb1.mono (by simp))).alloc (by omega) _
        have hSz := HKeep.out _ hbz
        have hl := run_look hSz.1.map (s, g)
        rw [hfst] at hl
        exact ⟨hbz, hs1, hl, blk_cell (HF.out.blk hSz.1 (by simp) HF.out.mbox) 0⟩
      have HLk := Lib.hid hlk
      clear hlk
      by_cases hb0 : bar = 0
      · subst hb0
        by_cases hmem : (s, g) ∈ es.map Prod.fst ++ [(ps, pg)]
        · have hN : Hid (dfsTo n (Pl.run n c []) ds f (es.map Prod.fst) (ps, pg) ⟨tw, tk, th⟩ (k + 1) = dfsTo n (Pl.run n c []) ds f (es.map Prod.fst) (ps, pg) ⟨tw, tk, th⟩ k) := by show _ = _; rw [Hsucc.out, Hsk.out (.inr hmem), List.append_nil]
          rw [decide_eq_true hmem] at HLk
          clear hmem hfst
          go_wp2_with (go_at_call 33; refine HCall.out.mono ?_; rintro e w1 ⟨rfl, hb1⟩; obtain ⟨hbz, hs1, hlook, hbmz⟩ := HLk.out w1 hb1; have HK1 := Lib.hid (HKeep.out _ hbz.out); clear hb1 hbz)
          go_roundw
          case rel => exact ⟨k + 1, ckl, rl, by omega, by go_num, by rw [hN.out]; exact HK1.out.1, HK1.out.2.1, hR, HK1.out.2.2.1, HK1.out.2.2.2.1, HK1.out.2.2.2.2⟩
          case measure => simp [intOf]; omega

        · have hnx := Hclose.out rfl
          have hgo2 := Hgo.out (by simp [hmem])
          have hTn := HT.out.next hnx hmem hkm.1 hkm.2 (d := if chg then 1 else 0) (by split <;> omega) (by split <;> omega) (k : Int)
          rw [decide_eq_false hmem] at HLk
          have hTb := HT.out.bound
          have hU24 := HI.out.lenU
          have hway := HT.out.way; have hkm0 := HT.out.km0; have hkm1 := HT.out.km1; have hch0 := HT.out.ch0; have hch1 := HT.out.ch1
          simp only at hway hkm0 hkm1 hch0 hch1
          have hwr : IntKind.i64.wrap (tk + tr.km) = tk + tr.km := IntWalk.i64_in _ (by omega)
          have hsl := fun W => run_slice_same tA tw.length tc hcap W
          have hnone : tA = none → tw = [] := fun h0 => by
            cases tw with
            | nil => rfl
            | cons y l => obtain ⟨b, off, h1, _⟩ := Ht.out 0 y rfl; rw [h0] at h1; cases h1
          have Hnone := Lib.hid hnone; have Hgo2 := Lib.hid hgo2; have HTn := Lib.hid hTn
          clear hmem hfst hnone hgo2 hTn hnx
          go_upto_region 9 with (go_at_call 33; refine HCall.out.mono ?_; rintro e w1 ⟨rfl, hb1⟩; obtain ⟨hbz, hs1, hlook, hbmz⟩ := HLk.out w1 hb1; have HK1 := Lib.hid (HKeep.out _ hbz.out); have Hb1 := Lib.hid hb1; have Hbz := Lib.hid hbz.out; clear hb1 hbz)
          have hs2 : (w1.alloc (.cells #[.int .i64 s, .int .i64 g] 64)).heap.size = w1.heap.size + 1 := by simp
          have hwa : w.heap.size + 1 < w1.heap.size := by omega
          have hwb : wl.heap.size < w1.heap.size := by omega
          have hKS : ∀ W, Below (w1.alloc (.cells #[.int .i64 s, .int .i64 g] 64)).heap.size (w1.alloc (.cells #[.int .i64 s, .int .i64 g] 64)) W → W.cell? ⟨w.heap.size + 1, 0, none⟩ = some (.slice tA tw.length tc) ∧ W.cell? ⟨w.heap.size + 1, 1, none⟩ = some (.int .i64 tk) ∧ W.cell? ⟨w.heap.size + 1, 2, none⟩ = some (.int .i64 th) ∧ W.cell? ⟨wl.heap.size, 2, none⟩ = some (.int .i64 tr.km) := by
            intro W hW
            have h1 := blk_below HK1.out.2.2.2.1 hW (by simp; omega)
            have h2 := blk_below (blk_alloc (blk_below (heap_alloc_new wl (.cells #[.int .i64 tr.a, .int .i64 tr.b, .int .i64 tr.km, .int .i64 tr.gauge, .int .i64 tr.room, .int .i64 tr.brake, .int .i64 tr.heat, .int .i64 tr.load, .bool tr.ferry] 31)) Hb1.out (by simp)) (.cells #[.int .i64 s, .int .i64 g] 64)) hW (by simp; omega)
            exact ⟨blk_cell h1 0, blk_cell h1 1, blk_cell h1 2, blk_cell h2 2⟩
          have HKS := Lib.hid hKS
          have HSl := hS
          have hS := hKS _ (Below.drew (Below.refl _ _))
          have hIA : ∀ W, Below (w1.alloc (.cells #[.int .i64 s, .int .i64 g] 64)).heap.size (w1.alloc (.cells #[.int .i64 s, .int .i64 g] 64)) W → Ints W (w1.alloc (.cells #[.int .i64 s, .int .i64 g] 64)).heap.size tA tw := fun W hW =>
            ((Ht.out.kept HK1.out.2.1 hR.out (by omega)).ints).below hW
          have HIA := Lib.hid hIA
          have hlw : tw.length ≤ 1000 := by omega
          clear hIA hKS hlook hbmz z0 z1 v0 c0 c1 c2 c3 c4 c5 c6 c7 c8
          go_cut [15] (fun v wx => ∃ (Y g' c' : Nat), v = .pointer (some ⟨Y, 0, none⟩) ∧ Hid (MoreAt (w1.alloc (.cells #[.int .i64 s, .int .i64 g] 64)) wx Y g' c' tw k (tk + tr.km) th))
          case first =>
            go_region_held3 (fun w' => w'.cell? ⟨w.heap.size + 1, 0, none⟩ = some (.slice tA tw.length tc) ∧ w'.cell? ⟨w.heap.size + 1, 1, none⟩ = some (.int .i64 tk) ∧ w'.cell? ⟨w.heap.size + 1, 2, none⟩ = some (.int .i64 th) ∧ w'.cell? ⟨wl.heap.size, 2, none⟩ = some (.int .i64 tr.km))
              (first | exact hS | (refine HKS.out _ ?_; (repeat (first | exact Below.refl _ _ | exact hbx | refine Below.drew ?_ | refine Below.alloc ?_ (by simp <;> omega) _ | refine Below.setCell ?_ (by simp <;> omega) _))))
              (first | (refine step_grow_own (by rfl) (.tmp 64) (.tmp 66) (by rfl) Tryz.underlying23 int_info tA tw tw.length rfl (by rfl) Hnone.out (w1.alloc (.cells #[.int .i64 s, .int .i64 g] 64)).heap.size (HIA.out _ (by (repeat (first | exact Below.refl _ _ | exact hbx | refine Below.drew ?_ | refine Below.alloc ?_ (by simp <;> omega) _ | refine Below.setCell ?_ (by simp <;> omega) _)))) _ 1 (k : Int) (by rfl) ?_ hlw ?_; (· first | exact el1 _ _ _ _ | exact el2 _ _ _ _ _ | exact el3 _ _ _ _ _); intro g' c' w3 hown3 hb3; have hbx : Below (w1.alloc (.cells #[.int .i64 s, .int .i64 g] 64)).heap.size (w1.alloc (.cells #[.int .i64 s, .int .i64 g] 64)) w3 := Below.trans (by (repeat (first | exact Below.refl _ _ | exact hbx | refine Below.drew ?_ | refine Below.alloc ?_ (by simp <;> omega) _ | refine Below.setCell ?_ (by simp <;> omega) _))) (hb3.mono (by simp <;> omega)); have hsx : w1.heap.size + 1 ≤ w3.heap.size := (by have := hbx.size; simpa using this); (first | (have hq := zero_first hb3; obtain ⟨q0, q1, q2, g0, g1, g2, ql⟩ := hq) | (have hq := zero_second hb3; obtain ⟨q0, q1, q2, g0, g1, g2, ql⟩ := hq) | skip)))
            all_goals
              go_wp2_with fail
              go_meet
            all_goals first
              | exact ⟨_, g', c', rfl, more_new _ _ hbx hown3 (by simp <;> omega)⟩
              | exact ⟨_, g', c', rfl, more_set _ _ hbx hown3 (by simp <;> omega) ql (by simp <;> omega)⟩
          case rest =>
            obtain ⟨Y, g', c', rfl, hM⟩ := hcut
            have hbC : Below wl.heap.size wl wc := Hbz.out.trans (hM.out.bel.mono (by simp; omega))
            have hKC := HKeep.out _ hbC
            have hYs := hM.out.hY
            simp only [World.size_alloc] at hYs
            have hsC : w1.heap.size + 1 ≤ wc.heap.size := by have := hM.out.bel.size; simpa using this
            have m0 : wc.cell? ⟨Y, 0, none⟩ = some (.slice (some ⟨g', 0, none⟩) (tw.length + 1) c') := blk_cell hM.out.box 0
            have m1 : wc.cell? ⟨Y, 1, none⟩ = some (.int .i64 (tk + tr.km)) := blk_cell hM.out.box 1
            have m2 : wc.cell? ⟨Y, 2, none⟩ = some (.int .i64 th) := blk_cell hM.out.box 2
            have mf : wc.frozen? ⟨Y, 2, none⟩ = false := blk_frozen hM.out.box 2
            have hpl := blk_below (heap_alloc_new w1 (.cells #[.int .i64 s, .int .i64 g] 64)) hM.out.bel (by simp)
            have n0 : wc.cell? ⟨w1.heap.size, 0, none⟩ = some (.int .i64 s) := blk_cell hpl 0
            have n1 : wc.cell? ⟨w1.heap.size, 1, none⟩ = some (.int .i64 g) := blk_cell hpl 1
            have hwk := HF.out.blk hKC.1 (by simp) HF.out.wbox
            have l0 : wc.cell? ⟨bw, 0, none⟩ = some (.func (.func 31) #[] #[.pointer (some ⟨bg, 0, none⟩), .pointer (some ⟨bf, 0, none⟩), .pointer (some ⟨bm, 0, none⟩), .pointer (some ⟨bn, 0, none⟩), .pointer (some ⟨bx, 0, none⟩), .pointer (some ⟨bw, 0, none⟩)]) := blk_cell hwk 0
            have hcapC : tw.length + 1 ≤ c' := by
              rcases hM.out.own.2 with ⟨h2, _⟩ | ⟨_, _, _, hv, _, _, hnc, _⟩
              · cases h2
              · injection hv with _ _ hv; subst hv; simpa using hnc
            have hbfl := lt_of_block Hh.out.fnd.choose_spec.choose_spec.choose_spec.1
            have hfst : (es ++ [((ps, pg), ck)]).map Prod.fst = es.map Prod.fst ++ [(ps, pg)] := by simp
            have hl1 : (tw ++ [(k : Int)]).length = tw.length + 1 := by simp
            obtain ⟨d, hd⟩ : ∃ d : Int, d = if chg then 1 else 0 := ⟨_, rfl⟩
            rw [← hd] at HTn Hgo2
            have hih : ∀ W, Below wl.heap.size wl W → OwnInts W (w1.heap.size + 1) (some ⟨g', 0, none⟩) c' (tw ++ [(k : Int)]) →
                Calls Tryz.prog 31 #[.agg #[.int .i64 s, .int .i64 g], .agg #[.slice (some ⟨g', 0, none⟩) (tw.length + 1) c', .int .i64 (tk + tr.km), .int .i64 (th + d)], .pointer (some ⟨bg, 0, none⟩), .pointer (some ⟨bf, 0, none⟩), .pointer (some ⟨bm, 0, none⟩), .pointer (some ⟨bn, 0, none⟩), .pointer (some ⟨bx, 0, none⟩), .pointer (some ⟨bw, 0, none⟩)] W
                  fun e w' => (∃ v, e = .returned v) ∧ Hid (∃ ck' r', WalkAt w0 bf bB w' (ts ++ dfsTo n (Pl.run n c []) ds f (es.map Prod.fst) (ps, pg) ⟨tw, tk, th⟩ (k + 1)) (es ++ [((ps, pg), ck)]) ck' r' ∧ KeptN bf bB r w w' ∧ RowOk (w.heap.size + 1 + 1) r r' ∧ w'.heap[w.heap.size]? = some (.cells #[.int .i64 ps, .int .i64 pg] 64 (0, 0)) ∧
                    w'.heap[w.heap.size + 1]? = some (.cells #[.slice tA tw.length tc, .int .i64 tk, .int .i64 th] 72 (0, 0)) ∧ w.heap.size + 1 + 1 ≤ w'.heap.size) := by
              intro W hW hown
              obtain ⟨k1, k2, k3, k4, k5⟩ := HKeep.out _ hW
              have hrl : ∀ q, rl = some q → q < w.heap.size ∨ w.heap.size + 1 + 1 ≤ q := by
                intro q hq
                rcases hR.out with h1 | ⟨q', h1, h2⟩
                · exact .inl (Hh.out.hr q (by rw [← h1, hq])).2
                · rw [h1] at hq; injection hq with hq; exact .inr (by omega)
              have hRw : RowOk w.heap.size r rl := by
                rcases hR.out with h1 | ⟨q, h1, h2⟩
                · exact .inl h1
                · exact .inr ⟨q, h1, by omega⟩
              have hwn : ∀ q, wl.heap.size ≤ q → ¬ Sx bf bB rl q := by
                rintro q hq (h1 | h1 | h1)
                · omega
                · omega
                · have := (HSl.out.hr q h1.symm).2; omega
              have h0 := HIH.out (s, g) ⟨tw ++ [(k : Int)], tk + tr.km, th + d⟩ (some ⟨g', 0, none⟩) c' W (ts ++ dfsTo n (Pl.run n c []) ds f (es.map Prod.fst) (ps, pg) ⟨tw, tk, th⟩ k) (es ++ [((ps, pg), ck)]) ckl rl k1 (IntsN.of_own hown (fun q hq => hwn q (by omega))) (by rw [hl1]; exact hcapC) (by rw [hfst]; exact HTn.out) (by
                rw [hfst, List.length_append, Nat.add_assoc, ← List.length_append, ← Hgo2.out, ← Hsucc.out]
                exact Nat.le_trans (Nat.add_le_add_left Hle.out _) Hmax.out)
              rw [hfst, List.append_assoc, ← Hgo2.out, ← Hsucc.out] at h0
              simp only [hl1] at h0
              refine h0.mono ?_
              rintro e w7 ⟨hv, ck', r', p1, p2, p3⟩
              refine ⟨hv, ck', r', p1, KeptN.trans (r' := rl) k2 p2 hRw, RowOk.trans hR.out p3 k5, ?_, ?_, Nat.le_trans k5 p2.size⟩
              · refine (p2.block _ (by omega) (by omega) (by omega) (fun e => ?_)).trans k3
                rcases hrl _ e.symm with h | h <;> omega
              · refine (p2.block _ (by omega) (by omega) (by omega) (fun e => ?_)).trans k4
                rcases hrl _ e.symm with h | h <;> omega
            have hownC := hM.out.own
            simp only [World.size_alloc] at hownC
            have HIH2 := Lib.hid hih
            have HownC := Lib.hid hownC; have HbC := Lib.hid hbC
            have Hbox := Lib.hid hM.out.box
            clear hih hownC hbC hKC hpl hwk hM hfst hl1 HTn Hgo2
            cases chg
            · have hd0 : d = 0 := by rw [hd]; rfl
              subst hd0
              rw [Int.add_zero] at HIH2
              clear hd
              go_wp2_with (go_at_call 31; refine (HIH2.out _ HbC.out HownC.out).mono ?_; rintro e w7 ⟨⟨v, rfl⟩, hQ⟩)
              go_roundw
              case rel =>
                obtain ⟨ck', r', p1, p2, p3, p4, p5, p6⟩ := hQ.out
                exact ⟨k + 1, ck', r', by omega, by go_num, p1, p2, p3, p4, p5, p6⟩
              case measure => simp [intOf]; omega
            · have hd1 : d = 1 := by rw [hd]; rfl
              subst hd1
              clear hd
              have hYl : Y < wc.heap.size := lt_of_block Hbox.out
              have hb2 : Hid (Below wl.heap.size wl (wc.setCell ⟨Y, 2, none⟩ (.int .i64 (th + 1)))) := HbC.out.setCell (p := ⟨Y, 2, none⟩) (by simp; omega) _
              have ho2 : Hid (OwnInts (wc.setCell ⟨Y, 2, none⟩ (.int .i64 (th + 1))) (w1.heap.size + 1) (some ⟨g', 0, none⟩) c' (tw ++ [(k : Int)])) := own_set HownC.out Hbox.out _ _
              go_wp2_with (go_at_call 31; refine (HIH2.out _ hb2.out ho2.out).mono ?_; rintro e w7 ⟨⟨v, rfl⟩, hQ⟩)
              go_roundw
              case rel =>
                obtain ⟨ck', r', p1, p2, p3, p4, p5, p6⟩ := hQ.out
                exact ⟨k + 1, ck', r', by omega, by go_num, p1, p2, p3, p4, p5, p6⟩
              case measure => simp [intOf]; omega
      · have hN : Hid (dfsTo n (Pl.run n c []) ds f (es.map Prod.fst) (ps, pg) ⟨tw, tk, th⟩ (k + 1) = dfsTo n (Pl.run n c []) ds f (es.map Prod.fst) (ps, pg) ⟨tw, tk, th⟩ k) := by show _ = _; rw [Hsucc.out, Hsk.out (.inl hb0), List.append_nil]
        have hb : (bar != 0) = true := by rw [bne_iff_ne]; exact hb0
        clear hb0 hfst
        go_wp2_with (go_at_call 33; refine HCall.out.mono ?_; rintro e w1 ⟨rfl, hb1⟩; obtain ⟨hbz, hs1, _, _⟩ := HLk.out w1 hb1; have HK1 := Lib.hid (HKeep.out _ hbz.out); clear hb1 hbz)
        go_roundw
        case rel => exact ⟨k + 1, ckl, rl, by omega, by go_num, by rw [hN.out]; exact HK1.out.1, HK1.out.2.1, hR, HK1.out.2.2.1, HK1.out.2.2.2.1, HK1.out.2.2.2.2⟩
        case measure => simp [intOf]; omega

    · obtain rfl : k = n.tracks.length := by omega
      have y0 : wl.cell? ⟨bm, 0, none⟩ = some (.map (some bB)) := blk_cell (HF.out.blk hS.out (by simp) HF.out.mbox) 0
      have z0 : wl.cell? ⟨w.heap.size, 0, none⟩ = some (.int .i64 ps) := blk_cell hB1.out 0
      have z1 : wl.cell? ⟨w.heap.size, 1, none⟩ = some (.int .i64 pg) := blk_cell hB1.out 1
      have hdrop := run_drop hS.out.map HT.out.pnot
      simp only [pv] at hdrop
      have hE := hS.out.setMap es ckl
      have HE1 := Lib.hid hE.1; have HE2 := Lib.hid hE.2
      have hfin : Hid (WalkPost w0 bf bB w (ts ++ dfsTo n (Pl.run n c []) ds f (es.map Prod.fst) (ps, pg) ⟨tw, tk, th⟩ n.tracks.length) es r (.returned (.tuple #[])) (setMap wl bB es ckl)) :=
        ⟨⟨_, rfl⟩, ckl, rl, HE1.out, hKl.out.trans HE2.out (by
          rcases hR.out with h1 | ⟨q, h1, h2⟩
          · exact .inl h1
          · exact .inr ⟨q, h1, by omega⟩), by
          rcases hR.out with h1 | ⟨q, h1, h2⟩
          · exact .inl h1
          · exact .inr ⟨q, h1, by omega⟩⟩
      clear hE HE1 HE2 hS hKl hR hB1 hB2
      go_wp2_with fail
      go_end0
      exact hfin.out
end Go.Proofs.YtpbjpochjagicaaGreatDoorRR
