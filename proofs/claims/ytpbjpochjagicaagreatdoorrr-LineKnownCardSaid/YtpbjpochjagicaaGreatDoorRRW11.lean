/- Walks: all places that a car reaches. Walks: does a car come to a station? -/
import Derived.Test.YtpbjpochjagicaaGreatDoorRRCh
import Derived.Test.YtpbjpochjagicaaGreatDoorRRPl
import Derived.Deep.DeepCutAuto
namespace Go.Proofs.YtpbjpochjagicaaGreatDoorRR
open Go.RowKit

theorem mk_chan (w : World) : (Instr.makeChan 112 (.int .i64 25)).run Tryz.prog w = .ok (.chan (some w.heap.size)) (w.alloc (.chan 25 #[] false 0 0 false)) := by
  obtain ⟨i, hi, hb⟩ : ∃ i, Tryz.prog.info? 64 = some i ∧ i.bytes = 16 := by
    have h : (Tryz.prog.info? 64).map (fun i => i.bytes) = some 16 := by kernel_rfl
    cases hh : Tryz.prog.info? 64 with
    | none => rw [hh] at h; cases h
    | some i => rw [hh] at h; simp at h; exact ⟨i, rfl, h⟩
  simpa using Conc.run_makeChan (P := Tryz.prog) (w := w) Tryz.underlying112 hi .i64 25 (by omega) (by rw [hb]; omega)
theorem zero_place (w : World) : (zeroValue 64).run Tryz.prog w = .ok (.agg #[.int .i64 0, .int .i64 0]) w := by kernel_rfl
theorem pv_mk (a b : Int) : (Value.agg #[.int .i64 a, .int .i64 b]) = pv (a, b) := rfl

theorem size_setMap (w : World) (g : Nat) (es : List (Pl.Place × Nat)) (clock : Nat) : (setMap w g es clock).heap.size = w.heap.size := by simp [setMap]
theorem setMap_is {w : World} {g : Nat} (hg : g < w.heap.size) (es : List (Pl.Place × Nat)) (clock : Nat) : MapIs (setMap w g es clock) g es clock := by simp [MapIs, setMap, hg]
theorem setMap_far {w : World} {g k : Nat} (es : List (Pl.Place × Nat)) (clock : Nat) (hk : k ≠ g) : (setMap w g es clock).heap[k]? = w.heap[k]? := by
  simp only [setMap]; rw [Array.getElem?_setIfInBounds_ne (Ne.symm hk)]
theorem setMap_below {B : Nat} {a w : World} (h : Below B a w) {g : Nat} (hg : B ≤ g) (es : List (Pl.Place × Nat)) (clock : Nat) : Below B a (setMap w g es clock) :=
  h.trans ⟨rfl, rfl, rfl, by rw [size_setMap]; exact Nat.le_refl _, fun k hk => setMap_far es clock (by omega)⟩
theorem setChan_far {w : World} {c cap k : Nat} {buf : Array Value} {cl : Bool} {s r : Nat} {tm : Bool} (hk : k ≠ c) : (w.setChan c cap buf cl s r tm).heap[k]? = w.heap[k]? := by
  simp only [World.setChan]; rw [Array.getElem?_setIfInBounds_ne (Ne.symm hk)]
theorem MapIs.lt {w : World} {g : Nat} {es : List (Pl.Place × Nat)} {clock : Nat} (h : MapIs w g es clock) : g < w.heap.size := lt_of_block h
theorem MapIs.of_block {w w' : World} {g : Nat} {es : List (Pl.Place × Nat)} {clock : Nat} (h : MapIs w g es clock) (hb : w'.heap[g]? = w.heap[g]?) : MapIs w' g es clock := hb.trans h

/-- How many entries the map in block g has. -/
def mapSize (w : World) (g : Nat) : Nat := match w.heap[g]? with | some (.map es _) => es.size | _ => 0
theorem mapSize_is {w : World} {g : Nat} {es : List (Pl.Place × Nat)} {clock : Nat} (h : MapIs w g es clock) : mapSize w g = es.length := by
  have h' : w.heap[g]? = some (.map (ents es) clock) := h
  simp [mapSize, h', ents]

/-- The state of the search: what is met (the map), what waits (the channel). -/
structure Bfs (w : World) (B : Nat) (p : Pl.Place) (met q : List Pl.Place) : Prop where
  box : w.heap[B]? = some (.cells #[.int .i64 p.1, .int .i64 p.2] 64 (0, 0))
  map : MapIs w (B + 1) met.zipIdx met.length
  chan : ∃ s r, w.heap[B + 2]? = some (.chan 25 (q.map pv).toArray false s r false)
  ns : met.Nodup
  sub : ∀ x ∈ q, x ∈ met
  len : q.length ≤ met.length
theorem Bfs.keep {w w' : World} {B : Nat} {p : Pl.Place} {met q : List Pl.Place} (h : Bfs w B p met q) (hb : ∀ k, k < B + 3 → w'.heap[k]? = w.heap[k]?) : Bfs w' B p met q := by
  obtain ⟨h1, h2, ⟨s, r, h3⟩, h4, h5, h6⟩ := h
  exact ⟨(hb B (by omega)).trans h1, h2.of_block (hb _ (by omega)), ⟨s, r, (hb _ (by omega)).trans h3⟩, h4, h5, h6⟩

/-- What reached hands back: the map of what is met, in new memory. -/
def ReachedPost (w : World) (R : List Pl.Place) (e : Ending) (w' : World) : Prop := e = .returned (.map (some (w.heap.size + 1))) ∧ Below w.heap.size w w' ∧ MapIs w' (w.heap.size + 1) R.zipIdx R.length

theorem zip_fst (l : List Pl.Place) : l.zipIdx.map Prod.fst = l := by simp
theorem zip_snoc (l : List Pl.Place) (x : Pl.Place) : (l ++ [x]).zipIdx = l.zipIdx ++ [(x, l.length)] := by simp [List.zipIdx_append]
theorem spread_skip {r : Nat → Pl.Place × Bool × Int} {m i : Nat} {met q : List Pl.Place} (h : (r i).2.2 ≠ 0 ∨ (r i).1 ∈ met) : Pl.spread r (m + 1) i met q = Pl.spread r m (i + 1) met q := by rw [Pl.spread, if_pos h]
theorem spread_take {r : Nat → Pl.Place × Bool × Int} {m i : Nat} {met q : List Pl.Place} (h : ¬ ((r i).2.2 ≠ 0 ∨ (r i).1 ∈ met)) : Pl.spread r (m + 1) i met q = Pl.spread r m (i + 1) (met ++ [(r i).1]) (q ++ [(r i).1]) := by rw [Pl.spread, if_neg h]

set_option maxRecDepth 100000 in
set_option maxHeartbeats 8000000 in
theorem reached_any (X N : Nat) (c : Pl.Cch) (c_gA c_bA c_hA : Option Addr) (c_gc c_bc c_hc : Nat) (n : Pl.Nt) (n_tA n_sA : Option Addr) (n_tc n_sc : Nat) (rA : Option Addr) (reb : List Int) (rc : Nat) (p : Pl.Place) (w : World) (h : CarAt w X N c c_gA c_bA c_hA c_gc c_bc c_hc n n_tA n_sA n_tc n_sc rA reb.length rc)
    (hr : CReads w w.heap.size c c_gA c_bA c_hA c_gc c_bc c_hc) (hn : NReads w w.heap.size n n_tA n_sA n_tc n_sc) (hreb : Ints w w.heap.size rA reb) (hrl : reb.length ≤ 140737488355328)
    (U : List Pl.Place) (hU : ∀ x, Pl.Gets (Pl.run n c reb) n.tracks.length p x → x ∈ U) (hUl : U.length ≤ 24) :
    Calls Tryz.prog 27 #[.pointer (some ⟨X, 0, none⟩), .agg #[.int .i64 p.1, .int .i64 p.2]] w (ReachedPost w (Pl.reached n c reb p)) := by
  obtain ⟨ps, pg⟩ := p
  simp only
  have hmm := @run_makeMap Tryz.prog
  have hM0 : MapIs ((w.alloc (.cells #[.int .i64 ps, .int .i64 pg] 64)).alloc (.map #[] 0)) (w.heap.size + 1) [] 0 := by
    have := heap_alloc_new (w.alloc (.cells #[.int .i64 ps, .int .i64 pg] 64)) (.map #[] 0)
    simpa [MapIs, ents] using this
  have hput := run_put hM0 (ps, pg) (by simp)
  simp only [pv] at hput
  have hsz := size_setMap ((w.alloc (.cells #[.int .i64 ps, .int .i64 pg] 64)).alloc (.map #[] 0)) (w.heap.size + 1) [((ps, pg), 0)] 1
  simp only [World.size_alloc] at hsz
  obtain ⟨T, hT⟩ : ∃ T, T = (setMap ((w.alloc (.cells #[.int .i64 ps, .int .i64 pg] 64)).alloc (.map #[] 0)) (w.heap.size + 1) [((ps, pg), 0)] 1).alloc (.chan 25 #[] false 0 0 false) := ⟨_, rfl⟩
  have hTB : Bfs T w.heap.size (ps, pg) [(ps, pg)] [] := by
    subst hT
    refine ⟨?_, ?_, ⟨0, 0, ?_⟩, by simp, by simp, by simp⟩
    · exact blk_alloc ((setMap_far _ _ (by omega)).trans (blk_alloc (heap_alloc_new w _) _)) _
    · exact blk_alloc (setMap_is hM0.lt _ _) _
    · have := heap_alloc_new (setMap ((w.alloc (.cells #[.int .i64 ps, .int .i64 pg] 64)).alloc (.map #[] 0)) (w.heap.size + 1) [((ps, pg), 0)] 1) (.chan 25 #[] false 0 0 false)
      rw [hsz] at this
      exact this
  have hTw : Below w.heap.size w T := by
    subst hT
    exact (setMap_below (((Below.refl _ _).alloc (Nat.le_refl _) _).alloc (by simp) _) (by omega) _ _).alloc (by rw [hsz]; omega) _
  have hTs : T.heap.size = w.heap.size + 3 := by subst hT; rw [World.size_alloc, hsz]
  have HT := Lib.hid hT; clear hT
  have HTB := Lib.hid hTB; have HTw := Lib.hid hTw; clear hTB hTw
  have HTs := Lib.hid hTs; clear hTs
  go_enter Tryz.func27, Tryz.ntmps27
  have hmc := mk_chan
  go_upto_region 3 with (fail)
  rw [← HT.out]
  clear hmm hput hsz hmc hM0
  have z0 : T.cell? ⟨w.heap.size, 0, none⟩ = some (.int .i64 ps) := blk_cell HTB.out.box 0
  have z1 : T.cell? ⟨w.heap.size, 1, none⟩ = some (.int .i64 pg) := blk_cell HTB.out.box 1
  refine opsTo_region ?_
  show OpsTo _ _ _ [0, 1, 2] _ _
  refine opsTo_value rfl rfl (v := .chan (some (w.heap.size + 1 + 1))) (w1 := T) (by go_simp) ?_
  refine opsTo_value rfl rfl (v := .agg #[.int .i64 ps, .int .i64 pg]) (w1 := T) (by go_simp) ?_
  obtain ⟨s0, r0, hch⟩ := HTB.out.chan
  refine opsTo_send rfl rfl (.tmp 17) (.tmp 18) rfl (c := w.heap.size + 1 + 1) (v := .agg #[.int .i64 ps, .int .i64 pg]) rfl rfl hch (by simp) ?_
  refine opsTo_nil ?_
  have hWB : Bfs (T.setChan (w.heap.size + 1 + 1) 25 ((List.map pv []).toArray.push (.agg #[.int .i64 ps, .int .i64 pg])) false (s0 + 1) r0 false) w.heap.size (ps, pg) [(ps, pg)] [(ps, pg)] :=
    ⟨(setChan_far (by omega)).trans HTB.out.box, HTB.out.map.of_block (setChan_far (by omega)), ⟨s0 + 1, r0, Conc.heap_setChan _ _ _ _ _ _ _ _ (by have := HTs.out; omega)⟩, by simp, by simp, by simp⟩
  have hWw : Below w.heap.size w (T.setChan (w.heap.size + 1 + 1) 25 ((List.map pv []).toArray.push (.agg #[.int .i64 ps, .int .i64 pg])) false (s0 + 1) r0 false) := Conc.below_setChan HTw.out (by omega) _ _ _ _ _ _
  have hWs : w.heap.size + 3 ≤ (T.setChan (w.heap.size + 1 + 1) 25 ((List.map pv []).toArray.push (.agg #[.int .i64 ps, .int .i64 pg])) false (s0 + 1) r0 false).heap.size := by rw [Conc.size_setChan, HTs.out]; omega
  generalize T.setChan (w.heap.size + 1 + 1) 25 ((List.map pv []).toArray.push (.agg #[.int .i64 ps, .int .i64 pg])) false (s0 + 1) r0 false = W at hWB hWw hWs ⊢
  clear hch z0 z1 HT HTB HTw HTs
  have HWB := Lib.hid hWB; have HWw := Lib.hid hWw; clear hWB hWw
  simp only [Exit.then, Act.put, List.setIfInBounds_toArray, List.set_cons_succ, List.set_cons_zero, List.getElem_toArray, List.getElem_cons_succ, List.getElem_cons_zero]
  have hXs : X < w.heap.size := h.ltX
  have hNs : N < w.heap.size := h.ltN
  have hlT := hn.lenT
  have Hc := Lib.hid h; have Hr := Lib.hid hr; have Hn := Lib.hid hn; have Hreb := Lib.hid hreb; have HU := Lib.hid hU; clear h hr hn hreb hU
  have hR0 : Hid (Pl.bfs (Pl.run n c reb) n.tracks.length 100 [(ps, pg)] [(ps, pg)] = Pl.reached n c reb (ps, pg)) := rfl
  have hG0 : Hid (∀ x ∈ [(ps, pg)], Pl.Gets (Pl.run n c reb) n.tracks.length (ps, pg) x) := by intro x hx; simp at hx; subst hx; exact .refl
  go_wp2_with fail
  go_loopw [7] (fun v wr => ∃ (f : Nat) (met q : List Pl.Place), v = .int .i64 (q.length : Nat) ∧ Hid (Bfs wr w.heap.size (ps, pg) met q) ∧ Hid (Below w.heap.size w wr) ∧ w.heap.size + 3 ≤ wr.heap.size ∧
    Hid (Pl.bfs (Pl.run n c reb) n.tracks.length f met q = Pl.reached n c reb (ps, pg)) ∧ Hid (∀ x ∈ met, Pl.Gets (Pl.run n c reb) n.tracks.length (ps, pg) x) ∧ 2 * (24 - met.length) + q.length < f ∧ met.length ≤ 24 ∧ q.length ≤ met.length)
    (fun v wr => 2 * (24 - mapSize wr (w.heap.size + 1)) + (intOf v).toNat)
  case atStart => exact ⟨100, [(ps, pg)], [(ps, pg)], rfl, HWB, HWw, hWs, hR0, hG0, by simp, by simp, by simp⟩
  case round =>
    obtain ⟨f, met, q, rfl, hB, hW, hs, hR, hG, hf, hm24, hqm⟩ := hrel
    clear hR0 hG0 HWB HWw hWs
    cases q with
    | nil =>
      have hN : Hid (Pl.reached n c reb (ps, pg) = met) := by
        show _ = _; rw [← hR.out]
        cases f with
        | zero => simp at hf
        | succ f => rfl
      clear hR
      go_wp2_with fail
      go_ret
      refine ⟨rfl, hW.out, ?_⟩
      rw [hN.out]
      exact hB.out.map
    | cons now q =>
      obtain ⟨f, rfl⟩ : ∃ f', f = f' + 1 := ⟨f - 1, by omega⟩
      rw [Pl.bfs] at hR
      obtain ⟨ns, ng⟩ := now
      obtain ⟨s1, r1, hch⟩ := hB.out.chan
      go_upto_region 7 with (fail)
      refine opsTo_region ?_
      show OpsTo _ _ _ [0, 1, 2, 3] _ _
      refine opsTo_value rfl rfl (v := .chan (some (w.heap.size + 1 + 1))) (w1 := wr) (by go_simp) ?_
      refine opsTo_recv rfl rfl 112 64 (.tmp 23) rfl Tryz.underlying112 (zero_place _) (c := w.heap.size + 1 + 1) rfl hch (by simp) (v := .agg #[.int .i64 ns, .int .i64 ng]) rfl ?_
      have hbuf : ((((ns, ng) :: q).map pv).toArray.extract 1 (((ns, ng) :: q).map pv).toArray.size) = (q.map pv).toArray := by
        apply Array.ext'
        simp
        rw [List.take_of_length_le (by simp)]
      rw [hbuf]
      have hWB : Bfs (wr.setChan (w.heap.size + 1 + 1) 25 (q.map pv).toArray false s1 (r1 + 1) false) w.heap.size (ps, pg) met q := by
        refine ⟨(setChan_far (by omega)).trans hB.out.box, hB.out.map.of_block (setChan_far (by omega)), ⟨s1, r1 + 1, ?_⟩, hB.out.ns, fun x hx => hB.out.sub x (by simp [hx]), by simp at hqm; omega⟩
        exact Conc.heap_setChan wr (w.heap.size + 1 + 1) 25 (q.map pv).toArray false s1 (r1 + 1) false (by omega)
      have hWw : Below w.heap.size w (wr.setChan (w.heap.size + 1 + 1) 25 (q.map pv).toArray false s1 (r1 + 1) false) := Conc.below_setChan hW.out (by omega) _ _ _ _ _ _
      have hWs : w.heap.size + 3 ≤ (wr.setChan (w.heap.size + 1 + 1) 25 (q.map pv).toArray false s1 (r1 + 1) false).heap.size := by rw [Conc.size_setChan]; omega
      have hms : mapSize wr (w.heap.size + 1) = met.length := by rw [mapSize_is hB.out.map]; simp
      have Hms := Lib.hid hms; clear hms
      have hnow : (ns, ng) ∈ met := hB.out.sub _ (by simp)
      clear hch hB hW
      generalize wr.setChan (w.heap.size + 1 + 1) 25 (q.map pv).toArray false s1 (r1 + 1) false = W1 at hWB hWw hWs ⊢
      have HWB := Lib.hid hWB; have HWw := Lib.hid hWw; clear hWB hWw
      refine opsTo_value rfl rfl (v := .pointer (some ⟨W1.heap.size, 0, none⟩)) (w1 := W1.alloc (.cells #[.int .i64 0, .int .i64 0] 64)) (by go_simp) ?_
      refine opsTo_skip rfl rfl (w1 := W1.alloc (.cells #[.int .i64 ns, .int .i64 ng] 64)) (by go_simp) ?_
      refine opsTo_nil ?_
      simp only [Exit.then, Act.put, List.setIfInBounds_toArray, List.set_cons_succ, List.set_cons_zero, List.getElem_toArray, List.getElem_cons_succ, List.getElem_cons_zero]
      have HX2 : Hid (Bfs (W1.alloc (.cells #[.int .i64 ns, .int .i64 ng] 64)) w.heap.size (ps, pg) met q) := HWB.out.keep (fun k hk => Below.heap_alloc _ _ _ (by omega))
      have HXw : Hid (Below w.heap.size w (W1.alloc (.cells #[.int .i64 ns, .int .i64 ng] 64))) := HWw.out.alloc (by omega) _
      have HXn : Hid ((W1.alloc (.cells #[.int .i64 ns, .int .i64 ng] 64)).heap[W1.heap.size]? = some (.cells #[.int .i64 ns, .int .i64 ng] 64 (0, 0))) := heap_alloc_new _ _
      have hXs2 : W1.heap.size < (W1.alloc (.cells #[.int .i64 ns, .int .i64 ng] 64)).heap.size := by simp
      have hn1 : w.heap.size + 3 ≤ W1.heap.size := hWs
      generalize hNB : W1.heap.size = NB at HXn hXs2 hn1 ⊢
      clear hNB
      generalize W1.alloc (.cells #[.int .i64 ns, .int .i64 ng] 64) = W2 at HX2 HXw HXn hXs2 ⊢
      clear HWB HWw hWs
      have Hcar2 := Lib.hid (Hc.out.below HXw.out hXs hNs)
      have x6 : W2.cell? ⟨X, 6, none⟩ = some (.pointer (some ⟨N, 0, none⟩)) := Hcar2.out.c6
      have x1 : W2.cell? ⟨N, 1, none⟩ = some (.slice n_tA n.tracks.length n_tc) := Hcar2.out.n1
      have hGm := hG
      simp only [List.length_cons, Int.natCast_add, Int.cast_ofNat_Int]
      go_wp2_with fail
      go_loopw [7, 33] (fun v i wi => ∃ (k : Nat) (met' q' : List Pl.Place), k ≤ n.tracks.length ∧ i = .int .i64 k ∧ v = .int .i64 ((q'.length : Int) + 1) ∧ Hid (Bfs wi w.heap.size (ps, pg) met' q') ∧ Hid (Below w.heap.size w wi) ∧ NB < wi.heap.size ∧
        Hid (wi.heap[NB]? = some (.cells #[.int .i64 ns, .int .i64 ng] 64 (0, 0))) ∧ Hid (∀ x ∈ met', Pl.Gets (Pl.run n c reb) n.tracks.length (ps, pg) x) ∧ met'.length ≤ 24 ∧ met.length ≤ met'.length ∧ q'.length + met.length = q.length + met'.length ∧
        Hid (Pl.spread (Pl.run n c reb (ns, ng)) n.tracks.length 0 met q = Pl.spread (Pl.run n c reb (ns, ng)) (n.tracks.length - k) k met' q'))
        (fun _ i _ => n.tracks.length - (intOf i).toNat)
      case atStart => exact ⟨0, met, q, Nat.zero_le _, rfl, by simp, HX2, HXw, hXs2, HXn, hG, hm24, Nat.le_refl _, rfl, rfl⟩
      case round =>
        obtain ⟨k, met', q', hk, rfl, rfl, hBi, hWi, hNs2, hNBi, hGi, hm24i, hmm, hqi, hSi⟩ := hrel
        clear HX2 HXw HXn hXs2 hGm x6 x1 Hcar2
        obtain ⟨wi, rfl⟩ : ∃ wi : World, wi = wr := ⟨_, rfl⟩
        by_cases hlt : k < n.tracks.length
        · have hszi : w.heap.size + 3 ≤ wi.heap.size := by omega
          have hrun := run_any X N c c_gA c_bA c_hA c_gc c_bc c_hc n n_tA n_sA n_tc n_sc rA reb rc (ns, ng) k hlt wi (Hc.out.below hWi.out hXs hNs) ((Hr.out.below hWi.out).more (by omega)) ((Hn.out.below hWi.out).more (by omega)) ((Hreb.out.below hWi.out).more (by omega)) hrl
          have hgets : ∀ i, i < n.tracks.length → (Pl.run n c reb (ns, ng) i).2.2 = 0 → Pl.Gets (Pl.run n c reb) n.tracks.length (ps, pg) (Pl.run n c reb (ns, ng) i).1 := fun i hi hz => (hG.out _ hnow).step hi hz
          have hgk := hgets k hlt
          have hsk : n.tracks.length - k = (n.tracks.length - (k + 1)) + 1 := by omega
          have hSi' := hSi.out
          rw [hsk] at hSi'
          have y0 : wi.cell? ⟨NB, 0, none⟩ = some (.int .i64 ns) := blk_cell hNBi.out 0
          have y1 : wi.cell? ⟨NB, 1, none⟩ = some (.int .i64 ng) := blk_cell hNBi.out 1
          have hskip := spread_skip (r := Pl.run n c reb (ns, ng)) (m := n.tracks.length - (k + 1)) (i := k) (met := met') (q := q')
          have htake := spread_take (r := Pl.run n c reb (ns, ng)) (m := n.tracks.length - (k + 1)) (i := k) (met := met') (q := q')
          generalize Pl.run n c reb (ns, ng) k = r at hrun hgk hskip htake
          obtain ⟨⟨s, g⟩, chg, bar⟩ := r
          simp only [runVal] at hrun
          simp only at hgk hskip htake
          have HR := Lib.hid hrun
          have Hgk := Lib.hid hgk; have Hskip := Lib.hid hskip; have Htake := Lib.hid htake; have HSi := Lib.hid hSi'
          clear hrun hgk hskip htake hSi' hgets hsk
          by_cases hb0 : bar = 0
          · subst hb0
            by_cases hmem : (s, g) ∈ met'
            · have hN : Hid (Pl.spread (Pl.run n c reb (ns, ng)) n.tracks.length 0 met q = Pl.spread (Pl.run n c reb (ns, ng)) (n.tracks.length - (k + 1)) (k + 1) met' q') := by
                show _ = _; rw [HSi.out, Hskip.out (.inr hmem)]
              have Hmem := Lib.hid hmem; clear hmem
              go_wp2_with fail
              refine HR.out.mono ?_
              rintro e w1 ⟨rfl, hb1⟩
              have hs1 := hb1.size
              have hB1 := hBi.out.keep (w' := w1.alloc (.cells #[.int .i64 s, .int .i64 g] 64)) (fun j hj => (Below.heap_alloc _ _ _ (by omega)).trans (hb1.block j (by omega)))
              have hlook := run_look hB1.map (s, g)
              rw [zip_fst, decide_eq_true Hmem.out] at hlook
              simp only [pv] at hlook
              have HB1 := Lib.hid hB1
              have hW1 : Hid (Below w.heap.size w (w1.alloc (.cells #[.int .i64 s, .int .i64 g] 64))) := (hWi.out.trans (hb1.mono (by omega))).alloc (by omega) _
              have hNB1 : Hid ((w1.alloc (.cells #[.int .i64 s, .int .i64 g] 64)).heap[NB]? = some (.cells #[.int .i64 ns, .int .i64 ng] 64 (0, 0))) := (Below.heap_alloc _ _ _ (by omega)).trans ((hb1.block NB (by omega)).trans hNBi.out)
              have hNs1 : NB < (w1.alloc (.cells #[.int .i64 s, .int .i64 g] 64)).heap.size := by simp; omega
              have HNs1 := Lib.hid hNs1
              clear hb1 hB1 hNs1
              go_wp2_with fail
              go_roundw
              case rel => exact ⟨k + 1, met', q', by omega, by go_num, rfl, HB1, hW1, HNs1.out, hNB1, hGi, hm24i, hmm, hqi, hN⟩
              case measure => simp [intOf]; omega
            · have hN : Hid (Pl.spread (Pl.run n c reb (ns, ng)) n.tracks.length 0 met q = Pl.spread (Pl.run n c reb (ns, ng)) (n.tracks.length - (k + 1)) (k + 1) (met' ++ [(s, g)]) (q' ++ [(s, g)])) := by
                show _ = _; rw [HSi.out, Htake.out (by simp [hmem])]
              have hGn : Hid (∀ x ∈ met' ++ [(s, g)], Pl.Gets (Pl.run n c reb) n.tracks.length (ps, pg) x) := fun x hx => by
                rcases List.mem_append.1 hx with hx | hx
                · exact hGi.out x hx
                · simp at hx; subst hx; exact Hgk.out rfl
              have hnd : (met' ++ [(s, g)]).Nodup := by
                rw [List.nodup_append]
                refine ⟨hBi.out.ns, by simp, fun a ha b hb => ?_⟩
                simp at hb; subst hb; rintro rfl; exact hmem ha
              have hln := Pl.length_le_of_nodup_subset (met' ++ [(s, g)]) U hnd (fun x hx => HU.out x (hGn.out x hx))
              have hln24 : met'.length + 1 ≤ 24 := by simp at hln; omega
              have Hmem := Lib.hid hmem; have Hnd := Lib.hid hnd; clear hmem hnd hln
              go_wp2_with fail
              refine HR.out.mono ?_
              rintro e w1 ⟨rfl, hb1⟩
              have hs1 := hb1.size
              have hB1 := hBi.out.keep (w' := w1.alloc (.cells #[.int .i64 s, .int .i64 g] 64)) (fun j hj => (Below.heap_alloc _ _ _ (by omega)).trans (hb1.block j (by omega)))
              have hlook := run_look hB1.map (s, g)
              rw [zip_fst, decide_eq_false Hmem.out] at hlook
              simp only [pv] at hlook
              have hput := run_put hB1.map (s, g) (by rw [zip_fst]; exact Hmem.out)
              simp only [pv] at hput
              obtain ⟨V, hV⟩ : ∃ V, V = setMap (w1.alloc (.cells #[.int .i64 s, .int .i64 g] 64)) (w.heap.size + 1) (met'.zipIdx ++ [((s, g), met'.length)]) (met'.length + 1) := ⟨_, rfl⟩
              rw [← hV] at hput
              have hVs : V.heap.size = w1.heap.size + 1 := by rw [hV, size_setMap, World.size_alloc]
              have hVn : V.heap[w1.heap.size]? = some (.cells #[.int .i64 s, .int .i64 g] 64 (0, 0)) := by rw [hV, setMap_far _ _ (by omega)]; exact heap_alloc_new _ _
              have hVNB : V.heap[NB]? = some (.cells #[.int .i64 ns, .int .i64 ng] 64 (0, 0)) := by
                rw [hV, setMap_far _ _ (by omega)]; exact (Below.heap_alloc _ _ _ (by omega)).trans ((hb1.block NB (by omega)).trans hNBi.out)
              have hVw : Below w.heap.size w V := by rw [hV]; exact setMap_below ((hWi.out.trans (hb1.mono (by omega))).alloc (by omega) _) (by omega) _ _
              have hVmap : MapIs V (w.heap.size + 1) (met' ++ [(s, g)]).zipIdx (met' ++ [(s, g)]).length := by
                rw [hV, zip_snoc]; simp only [List.length_append, List.length_cons, List.length_nil]; exact setMap_is hB1.map.lt _ _
              obtain ⟨s2, r2, hVch⟩ := hB1.chan
              have hVch' : V.heap[w.heap.size + 1 + 1]? = some (.chan 25 (q'.map pv).toArray false s2 r2 false) := by rw [hV, setMap_far _ _ (by omega)]; exact hVch
              have hVbox : V.heap[w.heap.size]? = some (.cells #[.int .i64 ps, .int .i64 pg] 64 (0, 0)) := by rw [hV, setMap_far _ _ (by omega)]; exact hB1.box
              have hsub := hB1.sub
              have hlen := hB1.len
              have v0 : V.cell? ⟨w1.heap.size, 0, none⟩ = some (.int .i64 s) := blk_cell hVn 0
              have v1 : V.cell? ⟨w1.heap.size, 1, none⟩ = some (.int .i64 g) := blk_cell hVn 1
              have HVs := Lib.hid hVs; have HVNB := Lib.hid hVNB; have HVw := Lib.hid hVw; have HVmap := Lib.hid hVmap; have HVch := Lib.hid hVch'; have HVbox := Lib.hid hVbox; have Hsub := Lib.hid hsub
              clear hV hVs hVn hVNB hVw hVmap hVch hVch' hVbox hsub hB1 hb1
              go_upto_region 14 with (fail)
              refine opsTo_region ?_
              show OpsTo _ _ _ [0, 1, 2] _ _
              refine opsTo_value rfl rfl (v := .chan (some (w.heap.size + 1 + 1))) (w1 := V) (by go_simp) ?_
              refine opsTo_value rfl rfl (v := .agg #[.int .i64 s, .int .i64 g]) (w1 := V) (by go_simp) ?_
              refine opsTo_send rfl rfl (.tmp 53) (.tmp 54) rfl (c := w.heap.size + 1 + 1) (v := .agg #[.int .i64 s, .int .i64 g]) rfl rfl HVch.out (by simp; omega) ?_
              refine opsTo_nil ?_
              have hZB : Hid (Bfs (V.setChan (w.heap.size + 1 + 1) 25 ((q'.map pv).toArray.push (.agg #[.int .i64 s, .int .i64 g])) false (s2 + 1) r2 false) w.heap.size (ps, pg) (met' ++ [(s, g)]) (q' ++ [(s, g)])) := by
                refine ⟨(setChan_far (by omega)).trans HVbox.out, HVmap.out.of_block (setChan_far (by omega)), ⟨s2 + 1, r2, ?_⟩, Hnd.out, fun x hx => ?_, by simp; omega⟩
                · have := Conc.heap_setChan V (w.heap.size + 1 + 1) 25 ((q'.map pv).toArray.push (.agg #[.int .i64 s, .int .i64 g])) false (s2 + 1) r2 false (by have := HVs.out; omega)
                  refine this.trans ?_
                  simp [pv]
                · rcases List.mem_append.1 hx with hx | hx
                  · exact List.mem_append_left _ (Hsub.out x hx)
                  · exact List.mem_append_right _ hx
              have hZw : Hid (Below w.heap.size w (V.setChan (w.heap.size + 1 + 1) 25 ((q'.map pv).toArray.push (.agg #[.int .i64 s, .int .i64 g])) false (s2 + 1) r2 false)) := Conc.below_setChan HVw.out (by omega) _ _ _ _ _ _
              have hZN : Hid ((V.setChan (w.heap.size + 1 + 1) 25 ((q'.map pv).toArray.push (.agg #[.int .i64 s, .int .i64 g])) false (s2 + 1) r2 false).heap[NB]? = some (.cells #[.int .i64 ns, .int .i64 ng] 64 (0, 0))) := (setChan_far (by omega)).trans HVNB.out
              have hZs : NB < (V.setChan (w.heap.size + 1 + 1) 25 ((q'.map pv).toArray.push (.agg #[.int .i64 s, .int .i64 g])) false (s2 + 1) r2 false).heap.size := by rw [Conc.size_setChan, HVs.out]; omega
              generalize V.setChan (w.heap.size + 1 + 1) 25 ((q'.map pv).toArray.push (.agg #[.int .i64 s, .int .i64 g])) false (s2 + 1) r2 false = Z at hZB hZw hZN hZs ⊢
              clear v0 v1 hput hlook HVs HVNB HVw HVmap HVch HVbox
              simp only [Exit.then, Act.put, List.setIfInBounds_toArray, List.set_cons_succ, List.set_cons_zero, List.getElem_toArray, List.getElem_cons_succ, List.getElem_cons_zero]
              go_wp2_with fail
              go_roundw
              case rel => exact ⟨k + 1, met' ++ [(s, g)], q' ++ [(s, g)], by omega, by go_num, by simp, hZB, hZw, hZs, hZN, hGn, by simp; omega, by simp; omega, by simp; omega, hN⟩
              case measure => simp [intOf]; omega
          · have hN : Hid (Pl.spread (Pl.run n c reb (ns, ng)) n.tracks.length 0 met q = Pl.spread (Pl.run n c reb (ns, ng)) (n.tracks.length - (k + 1)) (k + 1) met' q') := by
              show _ = _; rw [HSi.out, Hskip.out (.inl hb0)]
            have hb : (bar != 0) = true := by rw [bne_iff_ne]; exact hb0
            clear hb0
            go_wp2_with fail
            refine HR.out.mono ?_
            rintro e w1 ⟨rfl, hb1⟩
            have hs1 := hb1.size
            have HB1 := Lib.hid (hBi.out.keep (w' := w1.alloc (.cells #[.int .i64 s, .int .i64 g] 64)) (fun j hj => (Below.heap_alloc _ _ _ (by omega)).trans (hb1.block j (by omega))))
            have hW1 : Hid (Below w.heap.size w (w1.alloc (.cells #[.int .i64 s, .int .i64 g] 64))) := (hWi.out.trans (hb1.mono (by omega))).alloc (by omega) _
            have hNB1 : Hid ((w1.alloc (.cells #[.int .i64 s, .int .i64 g] 64)).heap[NB]? = some (.cells #[.int .i64 ns, .int .i64 ng] 64 (0, 0))) := (Below.heap_alloc _ _ _ (by omega)).trans ((hb1.block NB (by omega)).trans hNBi.out)
            have hNs1 : NB < (w1.alloc (.cells #[.int .i64 s, .int .i64 g] 64)).heap.size := by simp; omega
            have HNs1 := Lib.hid hNs1
            clear hb1 hNs1
            go_wp2_with fail
            go_roundw
            case rel => exact ⟨k + 1, met', q', by omega, by go_num, rfl, HB1, hW1, HNs1.out, hNB1, hGi, hm24i, hmm, hqi, hN⟩
            case measure => simp [intOf]; omega
        · have hkn : k = n.tracks.length := by omega
          have hfin : Hid (Pl.spread (Pl.run n c reb (ns, ng)) n.tracks.length 0 met q = (met', q')) := by
            show _ = _; rw [hSi.out, hkn]; simp [Pl.spread]
          have hR' : Hid (Pl.bfs (Pl.run n c reb) n.tracks.length f met' q' = Pl.reached n c reb (ps, pg)) := by
            have h0 := hR.out
            rw [hfin.out] at h0
            exact h0
          have hmsi : mapSize wi (w.heap.size + 1) = met'.length := by rw [mapSize_is hBi.out.map]; simp
          have Hmsi := Lib.hid hmsi
          have hszi : w.heap.size + 3 ≤ wi.heap.size := by omega
          have hqm' : q'.length ≤ met'.length := hBi.out.len
          clear hmsi hSi hfin hR hkn
          go_wp2_with fail
          go_roundw
          case rel => exact ⟨f, met', q', by go_num, hBi, hWi, hszi, hR', hGi, by simp at hf; omega, hm24i, hqm'⟩
          case measure => rw [Hms.out, Hmsi.out]; simp [intOf]; omega
end Go.Proofs.YtpbjpochjagicaaGreatDoorRR

namespace Go.Proofs.YtpbjpochjagicaaGreatDoorRR
open Go.RowKit

theorem run_next' {w : World} {r g : Nat} {es : List (Pl.Place × Nat)} {seen : Array Nat} {clock : Nat} (h : MapIs w g es clock) (hr : IterIs w r g seen clock) (hb : ∀ e ∈ es, e.2 < clock) :
    ((∀ e ∈ es, e.2 ∈ seen) ∧ ∃ k, ∀ ty, (Instr.next (.pointer (some ⟨r, 0, none⟩)) false ty).run Tryz.prog w = .ok (.tuple #[.bool false]) (w.drewN k)) ∨
    (∃ e k, e ∈ es ∧ e.2 ∉ seen ∧ ∀ ty, (Instr.next (.pointer (some ⟨r, 0, none⟩)) false ty).run Tryz.prog w = .ok (.tuple #[.bool true, pv e.1, .bool true]) (setIter (w.drewN k) r g (seen.push e.2) clock)) := by
  rcases run_next 0 h hr hb with ⟨h1, k, h2⟩ | ⟨e, k, h1, h2, h3⟩
  · exact .inl ⟨h1, k, fun _ => h2⟩
  · exact .inr ⟨e, k, h1, h2, fun _ => h3⟩

/-- What the iterator in block r has handed out. -/
def seenOf (w : World) (r : Nat) : Array Nat := match w.heap[r]? with | some (.mapIter _ _ s _) => s | _ => #[]
theorem seenOf_is {w : World} {r g : Nat} {seen : Array Nat} {clock : Nat} (h : IterIs w r g seen clock) : seenOf w r = seen := by
  have h' : w.heap[r]? = some (.mapIter (some g) clock seen clock) := h
  simp [seenOf, h']
/-- How many entries are still to come. -/
def leftOf (es : List (Pl.Place × Nat)) (seen : Array Nat) : Nat := (es.filter fun e => !seen.contains e.2).length
theorem leftOf_push {es : List (Pl.Place × Nat)} {seen : Array Nat} {e : Pl.Place × Nat} (he : e ∈ es) (hn : e.2 ∉ seen) : leftOf es (seen.push e.2) < leftOf es seen := by
  unfold leftOf
  have hsub : ∀ l : List (Pl.Place × Nat), (l.filter fun x => !(seen.push e.2).contains x.2).length ≤ (l.filter fun x => !seen.contains x.2).length := by
    intro l
    induction l with
    | nil => simp
    | cons x l ih =>
      simp only [List.filter_cons]
      by_cases h1 : x.2 ∈ seen
      · have h2 : x.2 ∈ seen.push e.2 := by simp [h1]
        simp [h1, h2] at ih ⊢
        exact ih
      · by_cases h3 : x.2 = e.2
        · have h1e : e.2 ∉ seen := h3 ▸ h1
          simp [h1e, h3] at ih ⊢; omega
        · simp [h1, h3] at ih ⊢; exact ih
  induction es with
  | nil => simp at he
  | cons x l ih =>
    simp only [List.filter_cons]
    rcases List.mem_cons.1 he with rfl | he'
    · have := hsub l
      simp [hn] at this ⊢
      omega
    · have h1 := ih he'
      by_cases h1' : x.2 ∈ seen
      · simp [h1'] at h1 ⊢
        exact h1
      · by_cases h3 : x.2 = e.2
        · simp [hn, h3] at h1 ⊢; omega
        · simp [h1', h3] at h1 ⊢; exact h1
theorem zip_lt (R : List Pl.Place) : ∀ e ∈ R.zipIdx, e.2 < R.length := fun e he => by
  have := List.snd_lt_of_mem_zipIdx he
  simpa using this
theorem zip_nodup (R : List Pl.Place) : (R.zipIdx.map Prod.snd).Nodup := by
  rw [List.zipIdx_map_snd]; exact List.nodup_range'
theorem size_setIter (w : World) (r g : Nat) (s : Array Nat) (c : Nat) : (setIter w r g s c).heap.size = w.heap.size := by simp [setIter]
theorem setIter_is {w : World} {r : Nat} (hr : r < w.heap.size) (g : Nat) (s : Array Nat) (c : Nat) : IterIs (setIter w r g s c) r g s c := by simp [IterIs, setIter, hr]
theorem setIter_far {w : World} {r k : Nat} (g : Nat) (s : Array Nat) (c : Nat) (hk : k ≠ r) : (setIter w r g s c).heap[k]? = w.heap[k]? := by
  simp only [setIter]; rw [Array.getElem?_setIfInBounds_ne (Ne.symm hk)]
theorem setIter_below {B : Nat} {a w : World} (h : Below B a w) {r : Nat} (hr : B ≤ r) (g : Nat) (s : Array Nat) (c : Nat) : Below B a (setIter w r g s c) :=
  h.trans ⟨rfl, rfl, rfl, by rw [size_setIter]; exact Nat.le_refl _, fun k hk => setIter_far g s c (by omega)⟩

set_option maxRecDepth 100000 in
set_option maxHeartbeats 4000000 in
theorem comes_any (X N : Nat) (c : Pl.Cch) (c_gA c_bA c_hA : Option Addr) (c_gc c_bc c_hc : Nat) (n : Pl.Nt) (n_tA n_sA : Option Addr) (n_tc n_sc : Nat) (rA : Option Addr) (reb : List Int) (rc : Nat) (p : Pl.Place) (ds : Int) (w : World) (h : CarAt w X N c c_gA c_bA c_hA c_gc c_bc c_hc n n_tA n_sA n_tc n_sc rA reb.length rc)
    (hr : CReads w w.heap.size c c_gA c_bA c_hA c_gc c_bc c_hc) (hn : NReads w w.heap.size n n_tA n_sA n_tc n_sc) (hreb : Ints w w.heap.size rA reb) (hrl : reb.length ≤ 140737488355328)
    (U : List Pl.Place) (hU : ∀ x, Pl.Gets (Pl.run n c reb) n.tracks.length p x → x ∈ U) (hUl : U.length ≤ 24) :
    Calls Tryz.prog 42 #[.pointer (some ⟨X, 0, none⟩), .agg #[.int .i64 p.1, .int .i64 p.2], .int .i64 ds] w fun e w' => e = .returned (.bool (Pl.comes n c reb p ds)) ∧ Below w.heap.size w w' := by
  have hXs : X < w.heap.size := h.ltX
  have hNs : N < w.heap.size := h.ltN
  have hbA := (Below.refl w.heap.size w).alloc (Nat.le_refl _) (.cells #[.int .i64 p.1, .int .i64 p.2] 64)
  have hC := reached_any X N c c_gA c_bA c_hA c_gc c_bc c_hc n n_tA n_sA n_tc n_sc rA reb rc p (w.alloc (.cells #[.int .i64 p.1, .int .i64 p.2] 64)) (h.alloc _) ((hr.below hbA).more (by simp)) ((hn.below hbA).more (by simp)) ((hreb.below hbA).more (by simp)) hrl U hU hUl
  have HC := Lib.hid hC
  have HbA := Lib.hid hbA
  clear hC h hr hn hreb hU hbA
  have hdef : Hid (Pl.comes n c reb p ds = (Pl.reached n c reb p).any fun q => q.1 == ds) := rfl
  obtain ⟨R, hR⟩ : ∃ R, R = Pl.reached n c reb p := ⟨_, rfl⟩
  have HR := Lib.hid hR; clear hR
  go_enter Tryz.func42, Tryz.ntmps42
  go_wp2_with fail
  refine HC.out.mono ?_
  rintro e w1 ⟨rfl, hb1, hm1⟩
  rw [← HR.out] at hm1
  simp only [World.size_alloc] at hm1 hb1 ⊢
  have hrange := run_range hm1
  have hlt1 := hm1.lt
  have Hm1 := Lib.hid hm1; have HW1 := Lib.hid (HbA.out.trans (hb1.mono (by omega))); clear hm1 hb1
  go_wp2_with fail
  have hI0 : Hid (IterIs (w1.alloc (.mapIter (some (w.heap.size + 1 + 1)) R.length #[] R.length)) w1.heap.size (w.heap.size + 1 + 1) #[] R.length) := heap_alloc_new w1 _
  have hM0 : Hid (MapIs (w1.alloc (.mapIter (some (w.heap.size + 1 + 1)) R.length #[] R.length)) (w.heap.size + 1 + 1) R.zipIdx R.length) := Hm1.out.of_block (Below.heap_alloc _ _ _ hlt1)
  have hW0 : Hid (Below w.heap.size w (w1.alloc (.mapIter (some (w.heap.size + 1 + 1)) R.length #[] R.length))) := HW1.out.alloc (by omega) _
  clear hrange
  have hIB : w.heap.size + 1 + 1 < w1.heap.size := hlt1
  have hIs : w1.heap.size < (w1.alloc (.mapIter (some (w.heap.size + 1 + 1)) R.length #[] R.length)).heap.size := by simp
  generalize w1.alloc (.mapIter (some (w.heap.size + 1 + 1)) R.length #[] R.length) = W at hI0 hM0 hW0 hIs ⊢
  have hS0 : Hid (∀ e ∈ R.zipIdx, e.2 ∈ (#[] : Array Nat) → e.1.1 ≠ ds) := by intro e _ h; simp at h
  have HIs := Lib.hid hIs; clear hIs
  go_loopw [] (fun wr => ∃ seen : Array Nat, Hid (IterIs wr w1.heap.size (w.heap.size + 1 + 1) seen R.length) ∧ Hid (MapIs wr (w.heap.size + 1 + 1) R.zipIdx R.length) ∧ Hid (Below w.heap.size w wr) ∧ Hid (∀ e ∈ R.zipIdx, e.2 ∈ seen → e.1.1 ≠ ds))
    (fun wr => leftOf R.zipIdx (seenOf wr w1.heap.size))
  case atStart => exact ⟨#[], hI0, hM0, hW0, hS0⟩
  case round =>
    obtain ⟨seen, hI, hM, hW, hS⟩ := hrel
    clear hI0 hM0 hW0 hS0 HIs
    rcases run_next' hM.out hI.out (zip_lt R) with ⟨hall, k, hnx⟩ | ⟨e, k, he, hns, hnx⟩
    · have hN : Hid (Pl.comes n c reb p ds = false) := by
        show _ = _
        rw [hdef.out, ← HR.out, List.any_eq_false]
        intro q hq
        obtain ⟨i, hi, rfl⟩ := List.getElem_of_mem hq
        have hz : (R[i], i) ∈ R.zipIdx := by
          rw [List.mem_iff_getElem?]; exact ⟨i, by simp [hi]⟩
        simpa using hS.out _ hz (hall _ hz)
      clear hall
      go_wp2_with fail
      go_ret
      exact ⟨by rw [hN.out]; rfl, below_drewN hW.out _⟩
    · have hsz : w1.heap.size < wr.heap.size := lt_of_block hI.out
      have hI2 : Hid (IterIs (setIter (wr.drewN k) w1.heap.size (w.heap.size + 1 + 1) (seen.push e.2) R.length) w1.heap.size (w.heap.size + 1 + 1) (seen.push e.2) R.length) := setIter_is hsz _ _ _
      have hM2 : Hid (MapIs (setIter (wr.drewN k) w1.heap.size (w.heap.size + 1 + 1) (seen.push e.2) R.length) (w.heap.size + 1 + 1) R.zipIdx R.length) := hM.out.of_block (setIter_far _ _ _ (by omega))
      have hW2 : Hid (Below w.heap.size w (setIter (wr.drewN k) w1.heap.size (w.heap.size + 1 + 1) (seen.push e.2) R.length)) := setIter_below (below_drewN hW.out _) (by omega) _ _ _
      have hen := run_entry hM2.out hI2.out he (zip_nodup R)
      have hmeas : Hid (leftOf R.zipIdx (seen.push e.2) < leftOf R.zipIdx (seenOf wr w1.heap.size)) := by show _ < _; rw [seenOf_is hI.out]; exact leftOf_push he hns
      have hlt2 : Hid ((setIter (wr.drewN k) w1.heap.size (w.heap.size + 1 + 1) (seen.push e.2) R.length).heap.size = wr.heap.size) := size_setIter _ _ _ _ _
      have hWs : w.heap.size + 1 + 1 < wr.heap.size := by omega
      obtain ⟨⟨es, eg⟩, eb⟩ := e
      simp only [pv] at hnx hen
      generalize setIter (wr.drewN k) w1.heap.size (w.heap.size + 1 + 1) (seen.push (((es, eg), eb) : Pl.Place × Nat).2) R.length = W2 at hnx hen hI2 hM2 hW2 hlt2
      have He := Lib.hid he; clear he
      by_cases hd : es = ds
      · have hN : Hid (Pl.comes n c reb p ds = true) := by
          show _ = _
          rw [hdef.out, ← HR.out, List.any_eq_true]
          exact ⟨(es, eg), by have := List.fst_mem_of_mem_zipIdx He.out; simpa using this, by simpa using hd⟩
        have hb : (es == ds) = true := by rw [beq_iff_eq]; exact hd
        clear hd
        go_wp2_with fail
        go_ret
        exact ⟨by rw [hN.out]; rfl, hW2.out.alloc (by rw [hlt2.out]; omega) _⟩
      · have hb : (es == ds) = false := by rw [beq_eq_false_iff_ne]; exact hd
        have hS2 : Hid (∀ e ∈ R.zipIdx, e.2 ∈ seen.push eb → e.1.1 ≠ ds) := by
          intro x hx hm
          rcases Array.mem_push.1 hm with hm | hm
          · exact hS.out x hx hm
          · have hnd := zip_nodup R
            have : x = ((es, eg), eb) := by
              rw [List.mem_iff_getElem?] at hx
              obtain ⟨i, hi⟩ := hx
              have h2 := He.out
              rw [List.mem_iff_getElem?] at h2
              obtain ⟨j, hj⟩ := h2
              rw [List.getElem?_zipIdx] at hi hj
              cases hri : R[i]? with
              | none => rw [hri] at hi; simp at hi
              | some a =>
                cases hrj : R[j]? with
                | none => rw [hrj] at hj; simp at hj
                | some b =>
                  rw [hri] at hi; rw [hrj] at hj
                  simp at hi hj
                  subst hi
                  simp at hm
                  have hij : i = j := by rw [hm]; exact hj.2.symm
                  subst hij
                  rw [hri] at hrj
                  simp at hrj
                  simp [hrj, hj.1, hm]
            rw [this]; exact hd
        clear hd
        go_wp2_with fail
        go_roundw
        case rel => exact ⟨seen.push eb, (Below.heap_alloc _ _ _ (by rw [hlt2.out]; omega)).trans hI2.out, hM2.out.of_block (Below.heap_alloc _ _ _ (by rw [hlt2.out]; omega)), hW2.out.alloc (by rw [hlt2.out]; omega) _, hS2⟩
        case measure => rw [seenOf_is (g := w.heap.size + 1 + 1) (seen := seen.push eb) (clock := R.length) ((Below.heap_alloc _ _ _ (by rw [hlt2.out]; omega)).trans hI2.out)]; exact hmeas.out
end Go.Proofs.YtpbjpochjagicaaGreatDoorRR
