/- Walks: the reference moves a car over a line: Run (by gen_ref5.py). Walks: the reference's question about a station: asked (by gen_ref4.py). -/
import Derived.Test.YtpbjpochjagicaaGreatW79
namespace Go.Proofs.YtpbjpochjagicaaGreat
open Go.RowKit

/-- What the reference's Run answers. -/
def rrunOf (p : Pl.Place) (r : Pl.Place × Bool × Int) : Pl.Place × Int := if r.2.2 = 0 then (r.1, 0) else (p, r.2.2)
def rrunVal (q : Pl.Place × Int) : Value := .tuple #[.agg #[.int .i64 q.1.1, .int .i64 q.1.2], .int .i64 q.2]
theorem rrun_ok {p : Pl.Place} {r : Pl.Place × Bool × Int} (h : r.2.2 = 0) : rrunOf p r = (r.1, 0) := if_pos h
theorem rrun_no {p : Pl.Place} {r : Pl.Place × Bool × Int} (h : r.2.2 ≠ 0) : rrunOf p r = (p, r.2.2) := if_neg h
theorem five_at (w : World) (o1 o2 o3 o4 o5 : Obj) : (((((w.alloc o1).alloc o2).alloc o3).alloc o4).alloc o5).heap[w.heap.size]? = some o1 ∧ (((((w.alloc o1).alloc o2).alloc o3).alloc o4).alloc o5).heap[w.heap.size + 1]? = some o2 ∧
    (((((w.alloc o1).alloc o2).alloc o3).alloc o4).alloc o5).heap[w.heap.size + 1 + 1]? = some o3 ∧ (((((w.alloc o1).alloc o2).alloc o3).alloc o4).alloc o5).heap[w.heap.size + 1 + 1 + 1]? = some o4 ∧
    (((((w.alloc o1).alloc o2).alloc o3).alloc o4).alloc o5).heap[w.heap.size + 1 + 1 + 1 + 1]? = some o5 := by
  have h2 := heap_alloc_new (w.alloc o1) o2
  have h3 := heap_alloc_new ((w.alloc o1).alloc o2) o3
  have h4 := heap_alloc_new (((w.alloc o1).alloc o2).alloc o3) o4
  have h5 := heap_alloc_new ((((w.alloc o1).alloc o2).alloc o3).alloc o4) o5
  have hs : ∀ (w : World) (o : Obj), (w.alloc o).heap.size = w.heap.size + 1 := fun w o => by simp
  simp only [hs] at h2 h3 h4 h5
  exact ⟨blk_alloc (blk_alloc (blk_alloc (blk_alloc (heap_alloc_new w _) _) _) _) _, blk_alloc (blk_alloc (blk_alloc h2 _) _) _, blk_alloc (blk_alloc h3 _) _, blk_alloc h4 _, h5⟩
theorem bar_ne {c : Pl.Cch} {t : Pl.Trk} {b : Int} {l : List Int} (h : Pl.barred c t = b :: l) : b ≠ 0 := by
  have hm : b ∈ Pl.barred c t := by rw [h]; simp
  unfold Pl.barred at hm
  simp only [List.mem_append] at hm
  rcases hm with ((((hm | hm) | hm) | hm) | hm) | hm <;> (split at hm <;> simp at hm <;> omega)

set_option maxRecDepth 100000 in
set_option maxHeartbeats 8000000 in
theorem rrun_any (n : Pl.Nt) (n_tA n_sA : Option Addr) (n_tc n_sc : Nat) (c : Pl.Cch) (c_gA c_bA c_hA : Option Addr) (c_gc c_bc c_hc : Nat) (rA : Option Addr) (reb : List Int) (rc : Nat) (p : Pl.Place) (k : Nat) (hk : k < n.tracks.length) (w : World)
    (hn : NReads w w.heap.size n n_tA n_sA n_tc n_sc) (hr : CReads w w.heap.size c c_gA c_bA c_hA c_gc c_bc c_hc) (hreb : Ints w w.heap.size rA reb) (hrl : reb.length ≤ 140737488355328) :
    Calls Tryz.prog 88 #[.agg #[.int .i64 n.stops, .slice n_tA n.tracks.length n_tc, .slice n_sA n.shops.length n_sc], .agg #[.slice c_gA c.gauges.length c_gc, .int .i64 c.size, .int .i64 c.load, .slice c_bA c.brakes.length c_bc, .slice c_hA c.heats.length c_hc, .bool c.hooks], .slice rA reb.length rc, .agg #[.int .i64 p.1, .int .i64 p.2], .int .i64 k] w fun e w' => e = .returned (rrunVal (rrunOf p (Pl.run n c reb p k))) ∧ Below w.heap.size w w' := by
  rw [run_at hk]
  obtain ⟨ps, pg⟩ := p
  simp only
  obtain ⟨b, off, htA, hbw, hcell⟩ : ∃ b off, n_tA = some ⟨b, off, none⟩ ∧ b < w.heap.size ∧ ∀ j v, (trkCells n.tracks[k])[j]? = some v → w.cell? ⟨b, off + k * 9 + j, none⟩ = some v := by
    obtain ⟨b, off, h1, h2, h3⟩ := hn.tracks k _ (List.getElem?_eq_getElem hk)
    exact ⟨b, off, h1, h2, h3⟩
  subst htA
  have hlt := hn.lenT
  have hls := hn.lenS
  generalize n.tracks[k] = t at hcell ⊢
  obtain ⟨t0, t1, t2, t3, t4, t5, t6, t7, t8⟩ := trk_cells (w := w) (b := b) (o := off + k * 9) (t := t) (fun i v hv => hcell i v hv)
  clear hcell
  have hb1 : b < w.heap.size + 1 := by omega
  have hb2 : b < w.heap.size + 1 + 1 := by omega
  have hb3 : b < w.heap.size + 1 + 1 + 1 := by omega
  have hb4 : b < w.heap.size + 1 + 1 + 1 + 1 := by omega
  have hki : (k : Int) < (n.tracks.length : Int) := by omega
  obtain ⟨w5, hw5⟩ : ∃ w5, w5 = (((((w.alloc (.cells #[.int .i64 n.stops, .slice (some ⟨b, off, none⟩) n.tracks.length n_tc, .slice n_sA n.shops.length n_sc] 25)).alloc (.cells #[.slice c_gA c.gauges.length c_gc, .int .i64 c.size, .int .i64 c.load, .slice c_bA c.brakes.length c_bc, .slice c_hA c.heats.length c_hc, .bool c.hooks] 27)).alloc (.cells #[.int .i64 ps, .int .i64 pg] 83)).alloc (.cells #[.int .i64 0, .int .i64 0] 83)).alloc (.cells #[.int .i64 t.a, .int .i64 t.b, .int .i64 t.km, .int .i64 t.gauge, .int .i64 t.room, .int .i64 t.brake, .int .i64 t.heat, .int .i64 t.load, .bool t.ferry] 107)) := ⟨_, rfl⟩
  have hB5 : Below w.heap.size w w5 := by rw [hw5]; exact (((((Below.refl _ _).alloc (Nat.le_refl _) _).alloc (by simp) _).alloc (by simp; omega) _).alloc (by simp; omega) _).alloc (by simp; omega) _
  have hs5 : w5.heap.size = w.heap.size + 1 + 1 + 1 + 1 + 1 := by rw [hw5]; simp
  obtain ⟨hm0, hm1, hm2, hm3, hm4⟩ := five_at w (.cells #[.int .i64 n.stops, .slice (some ⟨b, off, none⟩) n.tracks.length n_tc, .slice n_sA n.shops.length n_sc] 25) (.cells #[.slice c_gA c.gauges.length c_gc, .int .i64 c.size, .int .i64 c.load, .slice c_bA c.brakes.length c_bc, .slice c_hA c.heats.length c_hc, .bool c.hooks] 27) (.cells #[.int .i64 ps, .int .i64 pg] 83) (.cells #[.int .i64 0, .int .i64 0] 83) (.cells #[.int .i64 t.a, .int .i64 t.b, .int .i64 t.km, .int .i64 t.gauge, .int .i64 t.room, .int .i64 t.brake, .int .i64 t.heat, .int .i64 t.load, .bool t.ferry] 107)
  rw [← hw5] at hm0 hm1 hm2 hm3 hm4
  have hkp : ∀ W, Below w5.heap.size w5 W → (W.cell? ⟨w.heap.size, 2, none⟩ = some (.slice n_sA n.shops.length n_sc)) ∧
      (W.cell? ⟨w.heap.size + 1, 0, none⟩ = some (.slice c_gA c.gauges.length c_gc) ∧ W.cell? ⟨w.heap.size + 1, 1, none⟩ = some (.int .i64 c.size) ∧ W.cell? ⟨w.heap.size + 1, 2, none⟩ = some (.int .i64 c.load) ∧ W.cell? ⟨w.heap.size + 1, 3, none⟩ = some (.slice c_bA c.brakes.length c_bc) ∧ W.cell? ⟨w.heap.size + 1, 4, none⟩ = some (.slice c_hA c.heats.length c_hc) ∧ W.cell? ⟨w.heap.size + 1, 5, none⟩ = some (.bool c.hooks)) ∧
      (W.cell? ⟨w.heap.size + 1 + 1, 0, none⟩ = some (.int .i64 ps) ∧ W.cell? ⟨w.heap.size + 1 + 1, 1, none⟩ = some (.int .i64 pg)) ∧
      (W.cell? ⟨w.heap.size + 1 + 1 + 1, 0, none⟩ = some (.int .i64 0) ∧ W.cell? ⟨w.heap.size + 1 + 1 + 1, 1, none⟩ = some (.int .i64 0) ∧ W.frozen? ⟨w.heap.size + 1 + 1 + 1, 0, none⟩ = false ∧ W.frozen? ⟨w.heap.size + 1 + 1 + 1, 1, none⟩ = false) ∧
      (W.cell? ⟨w.heap.size + 1 + 1 + 1 + 1, 0, none⟩ = some (.int .i64 t.a) ∧ W.cell? ⟨w.heap.size + 1 + 1 + 1 + 1, 1, none⟩ = some (.int .i64 t.b) ∧ W.cell? ⟨w.heap.size + 1 + 1 + 1 + 1, 2, none⟩ = some (.int .i64 t.km) ∧
       W.cell? ⟨w.heap.size + 1 + 1 + 1 + 1, 3, none⟩ = some (.int .i64 t.gauge) ∧ W.cell? ⟨w.heap.size + 1 + 1 + 1 + 1, 4, none⟩ = some (.int .i64 t.room) ∧ W.cell? ⟨w.heap.size + 1 + 1 + 1 + 1, 5, none⟩ = some (.int .i64 t.brake) ∧
       W.cell? ⟨w.heap.size + 1 + 1 + 1 + 1, 6, none⟩ = some (.int .i64 t.heat) ∧ W.cell? ⟨w.heap.size + 1 + 1 + 1 + 1, 7, none⟩ = some (.int .i64 t.load) ∧ W.cell? ⟨w.heap.size + 1 + 1 + 1 + 1, 8, none⟩ = some (.bool t.ferry)) := fun W hW => by
    have g0 := blk_below hm0 hW (by omega)
    have g1 := blk_below hm1 hW (by omega)
    have g2 := blk_below hm2 hW (by omega)
    have g3 := blk_below hm3 hW (by omega)
    have g4 := blk_below hm4 hW (by omega)
    exact ⟨blk_cell g0 2, ⟨blk_cell g1 0, blk_cell g1 1, blk_cell g1 2, blk_cell g1 3, blk_cell g1 4, blk_cell g1 5⟩, ⟨blk_cell g2 0, blk_cell g2 1⟩, ⟨blk_cell g3 0, blk_cell g3 1, blk_frozen g3 0, blk_frozen g3 1⟩, blk_cell g4 0, blk_cell g4 1, blk_cell g4 2, blk_cell g4 3, blk_cell g4 4, blk_cell g4 5, blk_cell g4 6, blk_cell g4 7, blk_cell g4 8⟩
  have Hn := Lib.hid ((hn.below hB5).more (B' := w5.heap.size) (by omega))
  have Hr := Lib.hid ((hr.below hB5).more (B' := w5.heap.size) (by omega))
  have Hreb := Lib.hid ((hreb.below hB5).more (B' := w5.heap.size) (by omega))
  have HB5 := Lib.hid hB5
  have HKP := Lib.hid hkp
  have HS5 := Lib.hid hs5
  have HW5 := Lib.hid hw5
  clear hn hr hreb hB5 hkp hm0 hm1 hm2 hm3 hm4 hs5 hw5
  by_cases ea : ps = t.a
  · have hba : (ps == t.a) = true := by rw [beq_iff_eq]; exact ea
    simp only [Pl.runT]; rw [if_pos ea]
    clear ea
    cases hm : decide ((k : Int) ∈ reb)
    · go_enter Tryz.func88, Tryz.ntmps88
      go_wp2_with fail
      rw [← HW5.out]
      refine (has_any rA rc reb k _ w5 Hreb.out (by omega)).mono ?_
      rintro e w' ⟨rfl, rfl⟩
      rw [hm]
      obtain ⟨n2, ⟨x0, x1, x2, x3, x4, x5⟩, ⟨y0, y1⟩, ⟨z0, z1, zf0, zf1⟩, q0, q1, q2, q3, q4, q5, q6, q7, q8⟩ := HKP.out w5 (Below.refl _ _)
      go_wp2_with fail
      refine (rbars_any t c c_gA c_bA c_hA c_gc c_bc c_hc w5 Hr.out).mono ?_
      rintro e w1 ⟨A, c0, rfl, hown, hb1⟩
      clear n2 x0 x1 x2 x3 x4 x5 y0 y1 z0 z1 zf0 zf1 q0 q1 q2 q3 q4 q5 q6 q7 q8
      obtain ⟨n2, ⟨x0, x1, x2, x3, x4, x5⟩, ⟨y0, y1⟩, ⟨z0, z1, zf0, zf1⟩, q0, q1, q2, q3, q4, q5, q6, q7, q8⟩ := HKP.out w1 hb1
      have hzs : w.heap.size + 1 + 1 + 1 < w1.heap.size := by have := hb1.size; have := HS5.out; omega
      have HbW := Lib.hid (HB5.out.trans (hb1.mono (by have := HS5.out; omega)))
      have Hn1 := Lib.hid (Hn.out.below hb1)
      cases hbar : Pl.barred c t with
      | cons bb L =>
        rw [hbar] at hown
        have hR : Hid (rrunOf (ps, pg) (Pl.runTo n.shops c false (ps, pg) t t.b) = ((ps, pg), bb)) := by
          show _ = _
          have : Pl.runTo n.shops c false (ps, pg) t t.b = ((0, 0), false, bb) := by simp [Pl.runTo, hbar]
          rw [this, rrun_no (bar_ne hbar)]
        obtain ⟨g, o, rfl, hg, hcc⟩ : ∃ g o, A = some ⟨g, o, none⟩ ∧ g < w1.heap.size ∧ w1.cell? ⟨g, o, none⟩ = some (.int .i64 bb) := by
          obtain ⟨g, o, h1, h2, h3⟩ := hown.ints 0 bb rfl
          exact ⟨g, o, h1, h2, h3⟩
        have hgw : w5.heap.size ≤ g := by
          rcases hown.2 with ⟨h2, _⟩ | ⟨g', cap, cur, hv, hg', _⟩
          · cases h2
          · injection hv with hv; injection hv with hv; injection hv with hv; subst hv; simpa using hg'
        have hgn : g ≠ w.heap.size + 1 + 1 + 1 := by have := HS5.out; omega
        have hgn' : w.heap.size + 1 + 1 + 1 ≠ g := by have := HS5.out; omega
        clear hbar hown hb1 hgw
        go_wp2_with fail
        go_region
        all_goals (go_wp2_with fail)
        all_goals (refine bodyPost_ret (v := .tuple #[.agg #[.int .i64 ps, .int .i64 pg], .int .i64 bb]) (by simp [results, Tryz.results88, go_sem, z0, z1]) rfl ⟨by rw [hR.out]; rfl, ?_⟩)
        all_goals (repeat (first | exact HbW.out | refine Below.setCell ?_ (by simp; omega) _ | refine below_drewN ?_ _ | refine Below.drew ?_))
      | nil =>
        rw [hbar] at hown
        clear hown hb1
        cases hch : (pg != t.gauge)
        · have hch' : pg = t.gauge := by simpa using hch
          have hR : Hid (rrunOf (ps, pg) (Pl.runTo n.shops c false (ps, pg) t t.b) = ((t.b, t.gauge), 0)) := by
            show _ = _
            have : Pl.runTo n.shops c false (ps, pg) t t.b = ((t.b, t.gauge), false, 0) := by simp [Pl.runTo, hbar, hch']
            rw [this, rrun_ok rfl]
          clear hch' hbar
          go_wp2_with fail
          refine bodyPost_ret (v := .tuple #[.agg #[.int .i64 t.b, .int .i64 t.gauge], .int .i64 0]) (by simp [results, Tryz.results88, go_sem, z0, z1]) rfl ⟨by rw [hR.out]; rfl, ?_⟩
          (repeat (first | exact HbW.out | refine Below.setCell ?_ (by simp; omega) _ | refine below_drewN ?_ _ | refine Below.drew ?_))
        · have hch' : t.gauge ≠ pg := by intro e; simp [e] at hch
          cases hsh : decide (ps ∈ n.shops)
          · have hR : Hid (rrunOf (ps, pg) (Pl.runTo n.shops c false (ps, pg) t t.b) = ((ps, pg), 8)) := by
              show _ = _
              have hx : ps ∉ n.shops := by simpa using hsh
              have : Pl.runTo n.shops c false (ps, pg) t t.b = ((0, 0), false, 8) := by simp [Pl.runTo, hbar, hch', hx]
              rw [this, rrun_no (by decide)]
            clear hch' hbar
            go_wp2_with ((go_at_call 81; refine (has_any n_sA n_sc n.shops ps _ _ Hn1.out.shops (by omega)).mono ?_; rintro e w' ⟨rfl, rfl⟩))
            refine bodyPost_ret (v := .tuple #[.agg #[.int .i64 ps, .int .i64 pg], .int .i64 8]) (by simp [results, Tryz.results88, go_sem, z0, z1]) rfl ⟨by rw [hR.out]; rfl, ?_⟩
            (repeat (first | exact HbW.out | refine Below.setCell ?_ (by simp; omega) _ | refine below_drewN ?_ _ | refine Below.drew ?_))
          · have hR : Hid (rrunOf (ps, pg) (Pl.runTo n.shops c false (ps, pg) t t.b) = ((t.b, t.gauge), 0)) := by
              show _ = _
              have hx : ps ∈ n.shops := by simpa using hsh
              have : Pl.runTo n.shops c false (ps, pg) t t.b = ((t.b, t.gauge), true, 0) := by simp [Pl.runTo, hbar, hch', hx]
              rw [this, rrun_ok rfl]
            clear hch' hbar
            go_wp2_with ((go_at_call 81; refine (has_any n_sA n_sc n.shops ps _ _ Hn1.out.shops (by omega)).mono ?_; rintro e w' ⟨rfl, rfl⟩))
            refine bodyPost_ret (v := .tuple #[.agg #[.int .i64 t.b, .int .i64 t.gauge], .int .i64 0]) (by simp [results, Tryz.results88, go_sem, z0, z1]) rfl ⟨by rw [hR.out]; rfl, ?_⟩
            (repeat (first | exact HbW.out | refine Below.setCell ?_ (by simp; omega) _ | refine below_drewN ?_ _ | refine Below.drew ?_))
    · have hR : Hid (rrunOf (ps, pg) (Pl.runTo n.shops c true (ps, pg) t t.b) = ((t.b, pg), 0)) := by
        show _ = _
        have : Pl.runTo n.shops c true (ps, pg) t t.b = ((t.b, pg), false, 0) := by simp [Pl.runTo]
        rw [this, rrun_ok rfl]
      go_enter Tryz.func88, Tryz.ntmps88
      go_wp2_with fail
      rw [← HW5.out]
      refine (has_any rA rc reb k _ w5 Hreb.out (by omega)).mono ?_
      rintro e w' ⟨rfl, rfl⟩
      rw [hm]
      obtain ⟨n2, ⟨x0, x1, x2, x3, x4, x5⟩, ⟨y0, y1⟩, ⟨z0, z1, zf0, zf1⟩, q0, q1, q2, q3, q4, q5, q6, q7, q8⟩ := HKP.out w5 (Below.refl _ _)
      have hzs : w.heap.size + 1 + 1 + 1 < w5.heap.size := by have := HS5.out; omega
      go_wp2_with fail
      refine bodyPost_ret (v := .tuple #[.agg #[.int .i64 t.b, .int .i64 pg], .int .i64 0]) (by simp [results, Tryz.results88, go_sem, z0, z1]) rfl ⟨by rw [hR.out]; rfl, ?_⟩
      (repeat (first | exact HB5.out | refine Below.setCell ?_ (by simp; omega) _ | refine below_drewN ?_ _ | refine Below.drew ?_))
  · have hba : (ps == t.a) = false := by rw [beq_eq_false_iff_ne]; exact ea
    by_cases eb : ps = t.b
    · have hbb : (ps != t.b) = false := by simp [eb]
      simp only [Pl.runT]; rw [if_neg ea, if_pos eb]
      clear ea eb
      cases hm : decide ((k : Int) ∈ reb)
      · go_enter Tryz.func88, Tryz.ntmps88
        go_wp2_with fail
        rw [← HW5.out]
        refine (has_any rA rc reb k _ w5 Hreb.out (by omega)).mono ?_
        rintro e w' ⟨rfl, rfl⟩
        rw [hm]
        obtain ⟨n2, ⟨x0, x1, x2, x3, x4, x5⟩, ⟨y0, y1⟩, ⟨z0, z1, zf0, zf1⟩, q0, q1, q2, q3, q4, q5, q6, q7, q8⟩ := HKP.out w5 (Below.refl _ _)
        go_wp2_with fail
        refine (rbars_any t c c_gA c_bA c_hA c_gc c_bc c_hc w5 Hr.out).mono ?_
        rintro e w1 ⟨A, c0, rfl, hown, hb1⟩
        clear n2 x0 x1 x2 x3 x4 x5 y0 y1 z0 z1 zf0 zf1 q0 q1 q2 q3 q4 q5 q6 q7 q8
        obtain ⟨n2, ⟨x0, x1, x2, x3, x4, x5⟩, ⟨y0, y1⟩, ⟨z0, z1, zf0, zf1⟩, q0, q1, q2, q3, q4, q5, q6, q7, q8⟩ := HKP.out w1 hb1
        have hzs : w.heap.size + 1 + 1 + 1 < w1.heap.size := by have := hb1.size; have := HS5.out; omega
        have HbW := Lib.hid (HB5.out.trans (hb1.mono (by have := HS5.out; omega)))
        have Hn1 := Lib.hid (Hn.out.below hb1)
        cases hbar : Pl.barred c t with
        | cons bb L =>
          rw [hbar] at hown
          have hR : Hid (rrunOf (ps, pg) (Pl.runTo n.shops c false (ps, pg) t t.a) = ((ps, pg), bb)) := by
            show _ = _
            have : Pl.runTo n.shops c false (ps, pg) t t.a = ((0, 0), false, bb) := by simp [Pl.runTo, hbar]
            rw [this, rrun_no (bar_ne hbar)]
          obtain ⟨g, o, rfl, hg, hcc⟩ : ∃ g o, A = some ⟨g, o, none⟩ ∧ g < w1.heap.size ∧ w1.cell? ⟨g, o, none⟩ = some (.int .i64 bb) := by
            obtain ⟨g, o, h1, h2, h3⟩ := hown.ints 0 bb rfl
            exact ⟨g, o, h1, h2, h3⟩
          have hgw : w5.heap.size ≤ g := by
            rcases hown.2 with ⟨h2, _⟩ | ⟨g', cap, cur, hv, hg', _⟩
            · cases h2
            · injection hv with hv; injection hv with hv; injection hv with hv; subst hv; simpa using hg'
          have hgn : g ≠ w.heap.size + 1 + 1 + 1 := by have := HS5.out; omega
          have hgn' : w.heap.size + 1 + 1 + 1 ≠ g := by have := HS5.out; omega
          clear hbar hown hb1 hgw
          go_wp2_with fail
          go_region
          all_goals (go_wp2_with fail)
          all_goals (refine bodyPost_ret (v := .tuple #[.agg #[.int .i64 ps, .int .i64 pg], .int .i64 bb]) (by simp [results, Tryz.results88, go_sem, z0, z1]) rfl ⟨by rw [hR.out]; rfl, ?_⟩)
          all_goals (repeat (first | exact HbW.out | refine Below.setCell ?_ (by simp; omega) _ | refine below_drewN ?_ _ | refine Below.drew ?_))
        | nil =>
          rw [hbar] at hown
          clear hown hb1
          cases hch : (pg != t.gauge)
          · have hch' : pg = t.gauge := by simpa using hch
            have hR : Hid (rrunOf (ps, pg) (Pl.runTo n.shops c false (ps, pg) t t.a) = ((t.a, t.gauge), 0)) := by
              show _ = _
              have : Pl.runTo n.shops c false (ps, pg) t t.a = ((t.a, t.gauge), false, 0) := by simp [Pl.runTo, hbar, hch']
              rw [this, rrun_ok rfl]
            clear hch' hbar
            go_wp2_with fail
            refine bodyPost_ret (v := .tuple #[.agg #[.int .i64 t.a, .int .i64 t.gauge], .int .i64 0]) (by simp [results, Tryz.results88, go_sem, z0, z1]) rfl ⟨by rw [hR.out]; rfl, ?_⟩
            (repeat (first | exact HbW.out | refine Below.setCell ?_ (by simp; omega) _ | refine below_drewN ?_ _ | refine Below.drew ?_))
          · have hch' : t.gauge ≠ pg := by intro e; simp [e] at hch
            cases hsh : decide (ps ∈ n.shops)
            · have hR : Hid (rrunOf (ps, pg) (Pl.runTo n.shops c false (ps, pg) t t.a) = ((ps, pg), 8)) := by
                show _ = _
                have hx : ps ∉ n.shops := by simpa using hsh
                have : Pl.runTo n.shops c false (ps, pg) t t.a = ((0, 0), false, 8) := by simp [Pl.runTo, hbar, hch', hx]
                rw [this, rrun_no (by decide)]
              clear hch' hbar
              go_wp2_with ((go_at_call 81; refine (has_any n_sA n_sc n.shops ps _ _ Hn1.out.shops (by omega)).mono ?_; rintro e w' ⟨rfl, rfl⟩))
              refine bodyPost_ret (v := .tuple #[.agg #[.int .i64 ps, .int .i64 pg], .int .i64 8]) (by simp [results, Tryz.results88, go_sem, z0, z1]) rfl ⟨by rw [hR.out]; rfl, ?_⟩
              (repeat (first | exact HbW.out | refine Below.setCell ?_ (by simp; omega) _ | refine below_drewN ?_ _ | refine Below.drew ?_))
            · have hR : Hid (rrunOf (ps, pg) (Pl.runTo n.shops c false (ps, pg) t t.a) = ((t.a, t.gauge), 0)) := by
                show _ = _
                have hx : ps ∈ n.shops := by simpa using hsh
                have : Pl.runTo n.shops c false (ps, pg) t t.a = ((t.a, t.gauge), true, 0) := by simp [Pl.runTo, hbar, hch', hx]
                rw [this, rrun_ok rfl]
              clear hch' hbar
              go_wp2_with ((go_at_call 81; refine (has_any n_sA n_sc n.shops ps _ _ Hn1.out.shops (by omega)).mono ?_; rintro e w' ⟨rfl, rfl⟩))
              refine bodyPost_ret (v := .tuple #[.agg #[.int .i64 t.a, .int .i64 t.gauge], .int .i64 0]) (by simp [results, Tryz.results88, go_sem, z0, z1]) rfl ⟨by rw [hR.out]; rfl, ?_⟩
              (repeat (first | exact HbW.out | refine Below.setCell ?_ (by simp; omega) _ | refine below_drewN ?_ _ | refine Below.drew ?_))
      · have hR : Hid (rrunOf (ps, pg) (Pl.runTo n.shops c true (ps, pg) t t.a) = ((t.a, pg), 0)) := by
          show _ = _
          have : Pl.runTo n.shops c true (ps, pg) t t.a = ((t.a, pg), false, 0) := by simp [Pl.runTo]
          rw [this, rrun_ok rfl]
        go_enter Tryz.func88, Tryz.ntmps88
        go_wp2_with fail
        rw [← HW5.out]
        refine (has_any rA rc reb k _ w5 Hreb.out (by omega)).mono ?_
        rintro e w' ⟨rfl, rfl⟩
        rw [hm]
        obtain ⟨n2, ⟨x0, x1, x2, x3, x4, x5⟩, ⟨y0, y1⟩, ⟨z0, z1, zf0, zf1⟩, q0, q1, q2, q3, q4, q5, q6, q7, q8⟩ := HKP.out w5 (Below.refl _ _)
        have hzs : w.heap.size + 1 + 1 + 1 < w5.heap.size := by have := HS5.out; omega
        go_wp2_with fail
        refine bodyPost_ret (v := .tuple #[.agg #[.int .i64 t.a, .int .i64 pg], .int .i64 0]) (by simp [results, Tryz.results88, go_sem, z0, z1]) rfl ⟨by rw [hR.out]; rfl, ?_⟩
        (repeat (first | exact HB5.out | refine Below.setCell ?_ (by simp; omega) _ | refine below_drewN ?_ _ | refine Below.drew ?_))
    · have hbb : (ps != t.b) = true := by simp [eb]
      have hR : Hid (rrunOf (ps, pg) (Pl.runT n.shops c (decide ((k : Int) ∈ reb)) (ps, pg) t) = ((ps, pg), 7)) := by
        show _ = _
        have : Pl.runT n.shops c (decide ((k : Int) ∈ reb)) (ps, pg) t = ((0, 0), false, 7) := by simp only [Pl.runT]; rw [if_neg ea, if_neg eb]
        rw [this, rrun_no (by decide)]
      clear ea eb
      go_enter Tryz.func88, Tryz.ntmps88
      go_upto_region 2 with fail
      rw [← HW5.out]
      obtain ⟨n2, ⟨x0, x1, x2, x3, x4, x5⟩, ⟨y0, y1⟩, ⟨z0, z1, zf0, zf1⟩, q0, q1, q2, q3, q4, q5, q6, q7, q8⟩ := HKP.out w5 (Below.refl _ _)
      go_wp2_with fail
      have hzs : w.heap.size + 1 + 1 + 1 < w5.heap.size := by have := HS5.out; omega
      refine bodyPost_ret (v := .tuple #[.agg #[.int .i64 ps, .int .i64 pg], .int .i64 7]) (by simp [results, Tryz.results88, go_sem, z0, z1]) rfl ⟨by rw [hR.out]; rfl, ?_⟩
      (repeat (first | exact HB5.out | refine Below.setCell ?_ (by simp; omega) _ | refine below_drewN ?_ _ | refine Below.drew ?_))
end Go.Proofs.YtpbjpochjagicaaGreat

namespace Go.Proofs.YtpbjpochjagicaaGreat
open Go.RowKit

set_option maxHeartbeats 2000000 in
theorem rasked_any (n : Pl.Nt) (n_tA n_sA : Option Addr) (n_tc n_sc : Nat) (c : Pl.Cch) (c_gA c_bA c_hA : Option Addr) (c_gc c_bc c_hc : Nat) (fr g ds : Int) (w : World) (hn : NReads w w.heap.size n n_tA n_sA n_tc n_sc) (hr : CReads w w.heap.size c c_gA c_bA c_hA c_gc c_bc c_hc) :
    Calls Tryz.prog 43 #[.agg #[.int .i64 n.stops, .slice n_tA n.tracks.length n_tc, .slice n_sA n.shops.length n_sc], .agg #[.slice c_gA c.gauges.length c_gc, .int .i64 c.size, .int .i64 c.load, .slice c_bA c.brakes.length c_bc, .slice c_hA c.heats.length c_hc, .bool c.hooks], .int .i64 fr, .int .i64 g, .int .i64 ds] w fun e w' => e = .returned (.int .i64 (Pl.asked n c fr g ds)) ∧ Below w.heap.size w w' := by
  have hn' := (hn.alloc (Nat.le_refl _) (.cells #[.int .i64 n.stops, .slice n_tA n.tracks.length n_tc, .slice n_sA n.shops.length n_sc] 25)).alloc (by simp) (.cells #[.slice c_gA c.gauges.length c_gc, .int .i64 c.size, .int .i64 c.load, .slice c_bA c.brakes.length c_bc, .slice c_hA c.heats.length c_hc, .bool c.hooks] 27)
  have hr' := (hr.alloc (Nat.le_refl _) (.cells #[.int .i64 n.stops, .slice n_tA n.tracks.length n_tc, .slice n_sA n.shops.length n_sc] 25)).alloc (by simp) (.cells #[.slice c_gA c.gauges.length c_gc, .int .i64 c.size, .int .i64 c.load, .slice c_bA c.brakes.length c_bc, .slice c_hA c.heats.length c_hc, .bool c.hooks] 27)
  have lg := hr.lenG
  have Hn := Lib.hid (hn'.more (B' := w.heap.size + 1 + 1) (by omega)); have Hr := Lib.hid (hr'.more (B' := w.heap.size + 1 + 1) (by omega)); clear hn hn' hr hr'
  by_cases e1 : Pl.both n c = 0
  · have hst := check_stops (both_check e1).1
    obtain ⟨hlo, hhi⟩ := hst
    cases o1 : Pl.out fr 0 (n.stops - 1)
    · cases o2 : decide (g ∈ c.gauges)
      · have hN : Hid (Pl.asked n c fr g ds = 3) := by show _ = _; have : g ∉ c.gauges := by simpa using o2
                                                       have hq : Pl.question n c fr g = 3 := by simp only [Pl.question]; rw [if_neg (by simp [e1]), if_pos (by simp [this])]
                                                       simp [Pl.asked, hq]
        go_enter Tryz.func43, Tryz.ntmps43
        go_wp2_with fail
        refine (rboth_any n n_tA n_sA n_tc n_sc c c_gA c_bA c_hA c_gc c_bc c_hc _ (by simpa using Hn.out) (by simpa using Hr.out)).mono ?_
        rintro e w1 ⟨rfl, hb⟩
        obtain ⟨hc, hf⟩ := bcell hb
        have Hr2 := Lib.hid (Hr.out.below (by simpa using hb))
        go_wp2_with (first | (go_at_call 81; refine (has_any c_gA c_gc c.gauges g _ _ Hr2.out.gauges (by omega)).mono ?_; rintro e w' ⟨rfl, rfl⟩) | (go_at_call 80; refine (among_any _ _ _ _).mono ?_; rintro e w' ⟨rfl, rfl⟩))
        go_ret
        exact ⟨by rw [hN.out]; rfl, ((((Below.refl _ _).alloc (Nat.le_refl _) _).alloc (by simp) _).trans (hb.mono (by simp; omega)))⟩
      · have hq : Pl.question n c fr g = 0 := by
          have : g ∈ c.gauges := by simpa using o2
          simp only [Pl.question]; rw [if_neg (by simp [e1]), if_neg (by simp [this, o1])]
        cases o3 : Pl.out ds 0 (n.stops - 1)
        · have hN : Hid (Pl.asked n c fr g ds = 0) := by show _ = _; simp [Pl.asked, hq, o3]
          clear hq
          go_enter Tryz.func43, Tryz.ntmps43
          go_wp2_with fail
          refine (rboth_any n n_tA n_sA n_tc n_sc c c_gA c_bA c_hA c_gc c_bc c_hc _ (by simpa using Hn.out) (by simpa using Hr.out)).mono ?_
          rintro e w1 ⟨rfl, hb⟩
          obtain ⟨hc, hf⟩ := bcell hb
          have Hr2 := Lib.hid (Hr.out.below (by simpa using hb))
          go_wp2_with (first | (go_at_call 81; refine (has_any c_gA c_gc c.gauges g _ _ Hr2.out.gauges (by omega)).mono ?_; rintro e w' ⟨rfl, rfl⟩) | (go_at_call 80; refine (among_any _ _ _ _).mono ?_; rintro e w' ⟨rfl, rfl⟩))
          go_ret
          exact ⟨by rw [hN.out]; rfl, ((((Below.refl _ _).alloc (Nat.le_refl _) _).alloc (by simp) _).trans (hb.mono (by simp; omega)))⟩
        · have hN : Hid (Pl.asked n c fr g ds = 3) := by show _ = _; simp [Pl.asked, hq, o3]
          clear hq
          go_enter Tryz.func43, Tryz.ntmps43
          go_wp2_with fail
          refine (rboth_any n n_tA n_sA n_tc n_sc c c_gA c_bA c_hA c_gc c_bc c_hc _ (by simpa using Hn.out) (by simpa using Hr.out)).mono ?_
          rintro e w1 ⟨rfl, hb⟩
          obtain ⟨hc, hf⟩ := bcell hb
          have Hr2 := Lib.hid (Hr.out.below (by simpa using hb))
          go_wp2_with (first | (go_at_call 81; refine (has_any c_gA c_gc c.gauges g _ _ Hr2.out.gauges (by omega)).mono ?_; rintro e w' ⟨rfl, rfl⟩) | (go_at_call 80; refine (among_any _ _ _ _).mono ?_; rintro e w' ⟨rfl, rfl⟩))
          go_ret
          exact ⟨by rw [hN.out]; rfl, ((((Below.refl _ _).alloc (Nat.le_refl _) _).alloc (by simp) _).trans (hb.mono (by simp; omega)))⟩
    · have hN : Hid (Pl.asked n c fr g ds = 3) := by show _ = _; have hq : Pl.question n c fr g = 3 := by simp only [Pl.question]; rw [if_neg (by simp [e1]), if_pos (by simp [o1])]
                                                     simp [Pl.asked, hq]
      go_enter Tryz.func43, Tryz.ntmps43
      go_wp2_with fail
      refine (rboth_any n n_tA n_sA n_tc n_sc c c_gA c_bA c_hA c_gc c_bc c_hc _ (by simpa using Hn.out) (by simpa using Hr.out)).mono ?_
      rintro e w1 ⟨rfl, hb⟩
      obtain ⟨hc, hf⟩ := bcell hb
      have Hr2 := Lib.hid (Hr.out.below (by simpa using hb))
      go_wp2_with (first | (go_at_call 81; refine (has_any c_gA c_gc c.gauges g _ _ Hr2.out.gauges (by omega)).mono ?_; rintro e w' ⟨rfl, rfl⟩) | (go_at_call 80; refine (among_any _ _ _ _).mono ?_; rintro e w' ⟨rfl, rfl⟩))
      go_ret
      exact ⟨by rw [hN.out]; rfl, ((((Below.refl _ _).alloc (Nat.le_refl _) _).alloc (by simp) _).trans (hb.mono (by simp; omega)))⟩
  · have hN : Hid (Pl.asked n c fr g ds = Pl.both n c) := by show _ = _; have hq : Pl.question n c fr g = Pl.both n c := by simp only [Pl.question]; rw [if_pos e1]
                                                             simp [Pl.asked, hq, e1]
    have hb2 : (Pl.both n c != 0) = true := by rw [bne_iff_ne]; exact e1
    clear e1
    go_enter Tryz.func43, Tryz.ntmps43
    go_wp2_with fail
    refine (rboth_any n n_tA n_sA n_tc n_sc c c_gA c_bA c_hA c_gc c_bc c_hc _ (by simpa using Hn.out) (by simpa using Hr.out)).mono ?_
    rintro e w1 ⟨rfl, hb⟩
    go_wp2_with fail
    go_ret
    exact ⟨by rw [hN.out]; rfl, (((Below.refl _ _).alloc (Nat.le_refl _) _).alloc (by simp) _).trans (hb.mono (by simp; omega))⟩
end Go.Proofs.YtpbjpochjagicaaGreat
