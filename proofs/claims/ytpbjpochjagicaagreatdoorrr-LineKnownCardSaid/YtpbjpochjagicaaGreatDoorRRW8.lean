/- Walks: a car moves over a line. Walks: along a way; First. -/
import Derived.Test.YtpbjpochjagicaaGreatDoorRRW7
import Derived.BigRegion
import Derived.ChangeAlike
namespace Go.Proofs.YtpbjpochjagicaaGreatDoorRR
open Go.RowKit

def runVal (r : Pl.Place × Bool × Int) : Value := .tuple #[.agg #[.int .i64 r.1.1, .int .i64 r.1.2], .bool r.2.1, .int .i64 r.2.2]

theorem run_at {n : Pl.Nt} {c : Pl.Cch} {reb : List Int} {p : Pl.Place} {k : Nat} (hk : k < n.tracks.length) : Pl.run n c reb p k = Pl.runT n.shops c (decide ((k : Int) ∈ reb)) p n.tracks[k] := by
  rw [Pl.run, List.getD_eq_getElem?_getD, List.getElem?_eq_getElem hk]; rfl

theorem Ints.setCell {w : World} {B : Nat} {A : Option Addr} {xs : List Int} (h : Ints w B A xs) {p : Addr} (hp : B ≤ p.block) (u : Value) : Ints (w.setCell p u) B A xs :=
  h.keep fun q hq => World.cell?_setCell_other w p q u (fun e => by subst e; omega)
theorem Ints.drewN {w : World} {B : Nat} {A : Option Addr} {xs : List Int} (h : Ints w B A xs) (n : Nat) : Ints (w.drewN n) B A xs := h.keep fun _ _ => rfl
theorem Ints.drew {w : World} {B : Nat} {A : Option Addr} {xs : List Int} (h : Ints w B A xs) : Ints w.drew B A xs := h.keep fun _ _ => rfl

theorem mid_blk (w : World) (c1 c2 c3 : Array Value) (t1 t2 t3 : TypeId) :
    (((w.alloc (.cells c1 t1)).alloc (.cells c2 t2)).alloc (.cells c3 t3)).heap[w.heap.size + 1]? = some (.cells c2 t2 (0, 0)) ∧
    (((w.alloc (.cells c1 t1)).alloc (.cells c2 t2)).alloc (.cells c3 t3)).heap[w.heap.size]? = some (.cells c1 t1 (0, 0)) ∧
    (((w.alloc (.cells c1 t1)).alloc (.cells c2 t2)).alloc (.cells c3 t3)).heap[w.heap.size + 1 + 1]? = some (.cells c3 t3 (0, 0)) := by
  refine ⟨?_, ?_, ?_⟩
  · rw [Below.heap_alloc _ _ _ (by simp)]
    have := heap_alloc_new (w.alloc (.cells c1 t1)) (.cells c2 t2)
    simpa using this
  · rw [Below.heap_alloc _ _ _ (by simp; omega), Below.heap_alloc _ _ _ (by simp)]
    exact heap_alloc_new w _
  · have := heap_alloc_new ((w.alloc (.cells c1 t1)).alloc (.cells c2 t2)) (.cells c3 t3)
    simpa using this
theorem blk_cell {w : World} {g : Nat} {cs : Array Value} {t : TypeId} (h : w.heap[g]? = some (.cells cs t (0, 0))) (i : Nat) : w.cell? ⟨g, i, none⟩ = cs[i]? := cell_of_row w g i cs t (0, 0) h
theorem blk_frozen {w : World} {g : Nat} {cs : Array Value} {t : TypeId} (h : w.heap[g]? = some (.cells cs t (0, 0))) (i : Nat) : w.frozen? ⟨g, i, none⟩ = false := by simp [World.frozen?, h]

set_option maxRecDepth 100000 in
set_option maxHeartbeats 8000000 in
theorem run_any (X N : Nat) (c : Pl.Cch) (c_gA c_bA c_hA : Option Addr) (c_gc c_bc c_hc : Nat) (n : Pl.Nt) (n_tA n_sA : Option Addr) (n_tc n_sc : Nat) (rA : Option Addr) (reb : List Int) (rc : Nat) (p : Pl.Place) (k : Nat) (hk : k < n.tracks.length) (w : World) (h : CarAt w X N c c_gA c_bA c_hA c_gc c_bc c_hc n n_tA n_sA n_tc n_sc rA reb.length rc)
    (hr : CReads w w.heap.size c c_gA c_bA c_hA c_gc c_bc c_hc) (hn : NReads w w.heap.size n n_tA n_sA n_tc n_sc) (hreb : Ints w w.heap.size rA reb) (hrl : reb.length ≤ 140737488355328) :
    Calls Tryz.prog 33 #[.pointer (some ⟨X, 0, none⟩), .agg #[.int .i64 p.1, .int .i64 p.2], .int .i64 k] w fun e w' => e = .returned (runVal (Pl.run n c reb p k)) ∧ Below w.heap.size w w' := by
  rw [run_at hk]
  obtain ⟨ps, pg⟩ := p
  simp only
  obtain ⟨b, off, htA, hbw, hcell⟩ : ∃ b off, n_tA = some ⟨b, off, none⟩ ∧ b < w.heap.size ∧ ∀ j v, (trkCells n.tracks[k])[j]? = some v → w.cell? ⟨b, off + k * 9 + j, none⟩ = some v := by
    obtain ⟨b, off, h1, h2, h3⟩ := hn.tracks k _ (List.getElem?_eq_getElem hk)
    exact ⟨b, off, h1, h2, h3⟩
  subst htA
  have HB := fun W h1 h2 h3 => barred_any X N c c_gA c_bA c_hA c_gc c_bc c_hc n (some ⟨b, off, none⟩) n_sA n_tc n_sc rA reb.length rc k hk W h1 h2 h3
  have hlt := hn.lenT
  have hls := hn.lenS
  generalize n.tracks[k] = t at hcell HB ⊢
  obtain ⟨t0, t1, t2, t3, t4, t5, t6, t7, t8⟩ := trk_cells (w := w) (b := b) (o := off + k * 9) (t := t) (fun i v hv => hcell i v hv)
  clear hcell
  have hXs : X < w.heap.size := h.ltX
  have hNs : N < w.heap.size := h.ltN
  have hX1 : X < w.heap.size + 1 := by omega
  have hX2 : X < w.heap.size + 1 + 1 := by omega
  have hN1 : N < w.heap.size + 1 := by omega
  have hN2 : N < w.heap.size + 1 + 1 := by omega
  have hb1 : b < w.heap.size + 1 := by omega
  have hb2 : b < w.heap.size + 1 + 1 := by omega
  have p6 := h.c6
  have p2 := h.n2
  have p7 := h.c7
  have p1 := h.n1
  have hki : (k : Int) < (n.tracks.length : Int) := by omega
  have hb3 : ∀ (o1 o2 o3 : Obj), Below w.heap.size w (((w.alloc o1).alloc o2).alloc o3) := fun o1 o2 o3 => (((Below.refl _ _).alloc (Nat.le_refl _) _).alloc (by simp) _).alloc (by simp; omega) _
  have HB3 := Lib.hid hb3; clear hb3
  have HBR := Lib.hid HB; clear HB
  have Hc := Lib.hid h; have Hr := Lib.hid hr; have Hn := Lib.hid hn; have Hreb := Lib.hid hreb; clear h hr hn hreb
  by_cases ea : ps = t.a
  · have hba : (ps == t.a) = true := by rw [beq_iff_eq]; exact ea
    simp only [Pl.runT]; rw [if_pos ea]
    clear ea
    cases hm : decide ((k : Int) ∈ reb)
    · go_enter Tryz.func33, Tryz.ntmps33
      go_wp2_with fail
      refine (contains_any _ _ _ _ w.heap.size _ (Hreb.out.below (HB3.out _ _ _)) (by omega)).mono ?_
      rintro e w' ⟨rfl, rfl⟩
      rw [hm]
      go_wp2_with fail
      refine (HBR.out _ (Hc.out.below (HB3.out _ _ _) hXs hNs) ((Hr.out.below (HB3.out _ _ _)).more (by simp; omega)) ((Hn.out.below (HB3.out _ _ _)).more (by simp; omega))).mono ?_
      rintro e w1 ⟨A, c0, rfl, hown, hb1⟩
      have m1 := (hb1.block _ (by simp)).trans (mid_blk w #[.int .i64 ps, .int .i64 pg] #[.int .i64 t.b, .int .i64 0] #[.int .i64 t.a, .int .i64 t.b, .int .i64 t.km, .int .i64 t.gauge, .int .i64 t.room, .int .i64 t.brake, .int .i64 t.heat, .int .i64 t.load, .bool t.ferry] 64 64 31).1
      have m0 := (hb1.block _ (by simp; omega)).trans (mid_blk w #[.int .i64 ps, .int .i64 pg] #[.int .i64 t.b, .int .i64 0] #[.int .i64 t.a, .int .i64 t.b, .int .i64 t.km, .int .i64 t.gauge, .int .i64 t.room, .int .i64 t.brake, .int .i64 t.heat, .int .i64 t.load, .bool t.ferry] 64 64 31).2.1
      have m2 := (hb1.block _ (by simp)).trans (mid_blk w #[.int .i64 ps, .int .i64 pg] #[.int .i64 t.b, .int .i64 0] #[.int .i64 t.a, .int .i64 t.b, .int .i64 t.km, .int .i64 t.gauge, .int .i64 t.room, .int .i64 t.brake, .int .i64 t.heat, .int .i64 t.load, .bool t.ferry] 64 64 31).2.2
      have z0 : w1.cell? ⟨w.heap.size + 1, 0, none⟩ = some (.int .i64 t.b) := blk_cell m1 0
      have z1 : w1.cell? ⟨w.heap.size + 1, 1, none⟩ = some (.int .i64 0) := blk_cell m1 1
      have zf : w1.frozen? ⟨w.heap.size + 1, 0, none⟩ = false := blk_frozen m1 0
      have zf1 : w1.frozen? ⟨w.heap.size + 1, 1, none⟩ = false := blk_frozen m1 1
      have y0 : w1.cell? ⟨w.heap.size, 0, none⟩ = some (.int .i64 ps) := blk_cell m0 0
      have y1 : w1.cell? ⟨w.heap.size, 1, none⟩ = some (.int .i64 pg) := blk_cell m0 1
      have x3 : w1.cell? ⟨w.heap.size + 1 + 1, 3, none⟩ = some (.int .i64 t.gauge) := blk_cell m2 3
      have hzs : w.heap.size + 1 < w1.heap.size := by have := hb1.size; simp at this; omega
      have hbW : Below w.heap.size w w1 := (HB3.out _ _ _).trans (hb1.mono (by simp; omega))
      have HbW := Lib.hid hbW; clear hbW
      clear m0 m1 m2
      cases hbar : Pl.barred c t with
      | cons bb L =>
        rw [hbar] at hown
        have hR : Hid (Pl.runTo n.shops c false (ps, pg) t t.b = ((0, 0), false, bb)) := by show _ = _; simp [Pl.runTo, hbar]
        obtain ⟨g, o, rfl, hg, hcc⟩ : ∃ g o, A = some ⟨g, o, none⟩ ∧ g < w1.heap.size ∧ w1.cell? ⟨g, o, none⟩ = some (.int .i64 bb) := by
          obtain ⟨g, o, h1, h2, h3⟩ := hown.ints 0 bb rfl
          exact ⟨g, o, h1, h2, h3⟩
        have hgw : w.heap.size + 3 ≤ g := by
          rcases hown.2 with ⟨h2, _⟩ | ⟨g', cap, cur, hv, hg', _⟩
          · cases h2
          · injection hv with hv; injection hv with hv; injection hv with hv; subst hv; simpa using hg'
        have hgn : g ≠ w.heap.size + 1 := by omega
        have hgn' : w.heap.size + 1 ≠ g := by omega
        clear hbar hown hb1
        go_wp2_with fail
        go_region
        all_goals (go_wp2_with fail)
        all_goals (refine bodyPost_ret (v := .tuple #[.agg #[.int .i64 0, .int .i64 0], .bool false, .int .i64 bb]) (by simp [results, Tryz.results33, go_sem, z0, z1]) rfl ⟨by rw [hR.out]; rfl, ?_⟩)
        all_goals first | exact (((HbW.out).setCell (by simp) _).setCell (by simp) _).drew | exact (((HbW.out).drew.setCell (by simp) _).setCell (by simp) _)
      | nil =>
        rw [hbar] at hown
        have Hc1 := Lib.hid ((Hc.out.below (HB3.out _ _ _) hXs hNs).below hb1 (by simp; omega) (by simp; omega))
        have x6 : w1.cell? ⟨X, 6, none⟩ = some (.pointer (some ⟨N, 0, none⟩)) := Hc1.out.c6
        have x2 : w1.cell? ⟨N, 2, none⟩ = some (.slice n_sA n.shops.length n_sc) := Hc1.out.n2
        have hXe : X ≠ w.heap.size + 1 := by omega
        have hNe : N ≠ w.heap.size + 1 := by omega
        have Hn1 := Lib.hid ((Hn.out.below (HB3.out _ _ _)).below (hb1.mono (by simp; omega)))
        clear hown hb1
        cases hch : (t.gauge != pg)
        · have hch' : t.gauge = pg := by simpa using hch
          have hR : Hid (Pl.runTo n.shops c false (ps, pg) t t.b = ((t.b, t.gauge), false, 0)) := by show _ = _; simp [Pl.runTo, hbar, hch']
          clear hch' hbar
          go_wp2_with fail
          go_quiet (fail)
          go_wp2_with fail
          refine bodyPost_ret (v := .tuple #[.agg #[.int .i64 t.b, .int .i64 t.gauge], .bool false, .int .i64 0]) (by simp [results, Tryz.results33, go_sem, z0, z1]) rfl ⟨by rw [hR.out]; rfl, ?_⟩
          (repeat (first | exact HbW.out | refine Below.setCell ?_ (by simp) _ | refine below_drewN ?_ _))
        · have hch' : t.gauge ≠ pg := by simpa using hch
          cases hsh : decide (ps ∈ n.shops)
          · have hR : Hid (Pl.runTo n.shops c false (ps, pg) t t.b = ((0, 0), false, 8)) := by show _ = _; have hx : ps ∉ n.shops := (by simpa using hsh); simp [Pl.runTo, hbar, hch', hx]
            clear hch' hbar
            go_wp2_with fail
            (go_quiet ((go_at_call 28; exact quiet_left (contains_any _ _ _ _ w.heap.size _ (((Hn1.out.shops.setCell (by simp) _).drewN _)) (by omega)))))
            go_wp2_with fail
            refine bodyPost_ret (v := .tuple #[.agg #[.int .i64 0, .int .i64 0], .bool false, .int .i64 8]) (by simp [results, Tryz.results33, go_sem, z0, z1]) rfl ⟨by rw [hR.out]; rfl, ?_⟩
            (repeat (first | exact HbW.out | refine Below.setCell ?_ (by simp) _ | refine below_drewN ?_ _))
          · have hR : Hid (Pl.runTo n.shops c false (ps, pg) t t.b = ((t.b, t.gauge), true, 0)) := by show _ = _; have hx : ps ∈ n.shops := (by simpa using hsh); simp [Pl.runTo, hbar, hch', hx]
            clear hch' hbar
            go_wp2_with fail
            (go_quiet ((go_at_call 28; exact quiet_left (contains_any _ _ _ _ w.heap.size _ (((Hn1.out.shops.setCell (by simp) _).drewN _)) (by omega)))))
            go_wp2_with fail
            refine bodyPost_ret (v := .tuple #[.agg #[.int .i64 t.b, .int .i64 t.gauge], .bool true, .int .i64 0]) (by simp [results, Tryz.results33, go_sem, z0, z1]) rfl ⟨by rw [hR.out]; rfl, ?_⟩
            (repeat (first | exact HbW.out | refine Below.setCell ?_ (by simp) _ | refine below_drewN ?_ _))
    · have hR : Hid (Pl.runTo n.shops c true (ps, pg) t t.b = ((t.b, pg), false, 0)) := by show _ = _; simp [Pl.runTo]
      go_enter Tryz.func33, Tryz.ntmps33
      go_wp2_with fail
      refine (contains_any _ _ _ _ w.heap.size _ (Hreb.out.below (HB3.out _ _ _)) (by omega)).mono ?_
      rintro e w' ⟨rfl, rfl⟩
      rw [hm]
      go_wp2_with fail
      refine bodyPost_ret (v := .tuple #[.agg #[.int .i64 t.b, .int .i64 pg], .bool false, .int .i64 0]) (by simp [results, Tryz.results33, go_sem]) rfl ⟨by rw [hR.out]; rfl, HB3.out _ _ _⟩
  · have hba : (ps == t.a) = false := by rw [beq_eq_false_iff_ne]; exact ea
    by_cases eb : ps = t.b
    · have hbb : (ps == t.b) = true := by rw [beq_iff_eq]; exact eb
      simp only [Pl.runT]; rw [if_neg ea, if_pos eb]
      clear ea eb
      cases hm : decide ((k : Int) ∈ reb)
      · go_enter Tryz.func33, Tryz.ntmps33
        go_wp2_with fail
        refine (contains_any _ _ _ _ w.heap.size _ (Hreb.out.below (HB3.out _ _ _)) (by omega)).mono ?_
        rintro e w' ⟨rfl, rfl⟩
        rw [hm]
        go_wp2_with fail
        refine (HBR.out _ (Hc.out.below (HB3.out _ _ _) hXs hNs) ((Hr.out.below (HB3.out _ _ _)).more (by simp; omega)) ((Hn.out.below (HB3.out _ _ _)).more (by simp; omega))).mono ?_
        rintro e w1 ⟨A, c0, rfl, hown, hb1⟩
        have m1 := (hb1.block _ (by simp)).trans (mid_blk w #[.int .i64 ps, .int .i64 pg] #[.int .i64 t.a, .int .i64 0] #[.int .i64 t.a, .int .i64 t.b, .int .i64 t.km, .int .i64 t.gauge, .int .i64 t.room, .int .i64 t.brake, .int .i64 t.heat, .int .i64 t.load, .bool t.ferry] 64 64 31).1
        have m0 := (hb1.block _ (by simp; omega)).trans (mid_blk w #[.int .i64 ps, .int .i64 pg] #[.int .i64 t.a, .int .i64 0] #[.int .i64 t.a, .int .i64 t.b, .int .i64 t.km, .int .i64 t.gauge, .int .i64 t.room, .int .i64 t.brake, .int .i64 t.heat, .int .i64 t.load, .bool t.ferry] 64 64 31).2.1
        have m2 := (hb1.block _ (by simp)).trans (mid_blk w #[.int .i64 ps, .int .i64 pg] #[.int .i64 t.a, .int .i64 0] #[.int .i64 t.a, .int .i64 t.b, .int .i64 t.km, .int .i64 t.gauge, .int .i64 t.room, .int .i64 t.brake, .int .i64 t.heat, .int .i64 t.load, .bool t.ferry] 64 64 31).2.2
        have z0 : w1.cell? ⟨w.heap.size + 1, 0, none⟩ = some (.int .i64 t.a) := blk_cell m1 0
        have z1 : w1.cell? ⟨w.heap.size + 1, 1, none⟩ = some (.int .i64 0) := blk_cell m1 1
        have zf : w1.frozen? ⟨w.heap.size + 1, 0, none⟩ = false := blk_frozen m1 0
        have zf1 : w1.frozen? ⟨w.heap.size + 1, 1, none⟩ = false := blk_frozen m1 1
        have y0 : w1.cell? ⟨w.heap.size, 0, none⟩ = some (.int .i64 ps) := blk_cell m0 0
        have y1 : w1.cell? ⟨w.heap.size, 1, none⟩ = some (.int .i64 pg) := blk_cell m0 1
        have x3 : w1.cell? ⟨w.heap.size + 1 + 1, 3, none⟩ = some (.int .i64 t.gauge) := blk_cell m2 3
        have hzs : w.heap.size + 1 < w1.heap.size := by have := hb1.size; simp at this; omega
        have hbW : Below w.heap.size w w1 := (HB3.out _ _ _).trans (hb1.mono (by simp; omega))
        have HbW := Lib.hid hbW; clear hbW
        clear m0 m1 m2
        cases hbar : Pl.barred c t with
        | cons bb L =>
          rw [hbar] at hown
          have hR : Hid (Pl.runTo n.shops c false (ps, pg) t t.a = ((0, 0), false, bb)) := by show _ = _; simp [Pl.runTo, hbar]
          obtain ⟨g, o, rfl, hg, hcc⟩ : ∃ g o, A = some ⟨g, o, none⟩ ∧ g < w1.heap.size ∧ w1.cell? ⟨g, o, none⟩ = some (.int .i64 bb) := by
            obtain ⟨g, o, h1, h2, h3⟩ := hown.ints 0 bb rfl
            exact ⟨g, o, h1, h2, h3⟩
          have hgw : w.heap.size + 3 ≤ g := by
            rcases hown.2 with ⟨h2, _⟩ | ⟨g', cap, cur, hv, hg', _⟩
            · cases h2
            · injection hv with hv; injection hv with hv; injection hv with hv; subst hv; simpa using hg'
          have hgn : g ≠ w.heap.size + 1 := by omega
          have hgn' : w.heap.size + 1 ≠ g := by omega
          clear hbar hown hb1
          go_wp2_with fail
          go_region
          all_goals (go_wp2_with fail)
          all_goals (refine bodyPost_ret (v := .tuple #[.agg #[.int .i64 0, .int .i64 0], .bool false, .int .i64 bb]) (by simp [results, Tryz.results33, go_sem, z0, z1]) rfl ⟨by rw [hR.out]; rfl, ?_⟩)
          all_goals first | exact (((HbW.out).setCell (by simp) _).setCell (by simp) _).drew | exact (((HbW.out).drew.setCell (by simp) _).setCell (by simp) _)
        | nil =>
          rw [hbar] at hown
          have Hc1 := Lib.hid ((Hc.out.below (HB3.out _ _ _) hXs hNs).below hb1 (by simp; omega) (by simp; omega))
          have x6 : w1.cell? ⟨X, 6, none⟩ = some (.pointer (some ⟨N, 0, none⟩)) := Hc1.out.c6
          have x2 : w1.cell? ⟨N, 2, none⟩ = some (.slice n_sA n.shops.length n_sc) := Hc1.out.n2
          have hXe : X ≠ w.heap.size + 1 := by omega
          have hNe : N ≠ w.heap.size + 1 := by omega
          have Hn1 := Lib.hid ((Hn.out.below (HB3.out _ _ _)).below (hb1.mono (by simp; omega)))
          clear hown hb1
          cases hch : (t.gauge != pg)
          · have hch' : t.gauge = pg := by simpa using hch
            have hR : Hid (Pl.runTo n.shops c false (ps, pg) t t.a = ((t.a, t.gauge), false, 0)) := by show _ = _; simp [Pl.runTo, hbar, hch']
            clear hch' hbar
            go_wp2_with fail
            go_quiet (fail)
            go_wp2_with fail
            refine bodyPost_ret (v := .tuple #[.agg #[.int .i64 t.a, .int .i64 t.gauge], .bool false, .int .i64 0]) (by simp [results, Tryz.results33, go_sem, z0, z1]) rfl ⟨by rw [hR.out]; rfl, ?_⟩
            (repeat (first | exact HbW.out | refine Below.setCell ?_ (by simp) _ | refine below_drewN ?_ _))
          · have hch' : t.gauge ≠ pg := by simpa using hch
            cases hsh : decide (ps ∈ n.shops)
            · have hR : Hid (Pl.runTo n.shops c false (ps, pg) t t.a = ((0, 0), false, 8)) := by show _ = _; have hx : ps ∉ n.shops := (by simpa using hsh); simp [Pl.runTo, hbar, hch', hx]
              clear hch' hbar
              go_wp2_with fail
              (go_quiet ((go_at_call 28; exact quiet_left (contains_any _ _ _ _ w.heap.size _ (((Hn1.out.shops.setCell (by simp) _).drewN _)) (by omega)))))
              go_wp2_with fail
              refine bodyPost_ret (v := .tuple #[.agg #[.int .i64 0, .int .i64 0], .bool false, .int .i64 8]) (by simp [results, Tryz.results33, go_sem, z0, z1]) rfl ⟨by rw [hR.out]; rfl, ?_⟩
              (repeat (first | exact HbW.out | refine Below.setCell ?_ (by simp) _ | refine below_drewN ?_ _))
            · have hR : Hid (Pl.runTo n.shops c false (ps, pg) t t.a = ((t.a, t.gauge), true, 0)) := by show _ = _; have hx : ps ∈ n.shops := (by simpa using hsh); simp [Pl.runTo, hbar, hch', hx]
              clear hch' hbar
              go_wp2_with fail
              (go_quiet ((go_at_call 28; exact quiet_left (contains_any _ _ _ _ w.heap.size _ (((Hn1.out.shops.setCell (by simp) _).drewN _)) (by omega)))))
              go_wp2_with fail
              refine bodyPost_ret (v := .tuple #[.agg #[.int .i64 t.a, .int .i64 t.gauge], .bool true, .int .i64 0]) (by simp [results, Tryz.results33, go_sem, z0, z1]) rfl ⟨by rw [hR.out]; rfl, ?_⟩
              (repeat (first | exact HbW.out | refine Below.setCell ?_ (by simp) _ | refine below_drewN ?_ _))
      · have hR : Hid (Pl.runTo n.shops c true (ps, pg) t t.a = ((t.a, pg), false, 0)) := by show _ = _; simp [Pl.runTo]
        go_enter Tryz.func33, Tryz.ntmps33
        go_wp2_with fail
        refine (contains_any _ _ _ _ w.heap.size _ (Hreb.out.below (HB3.out _ _ _)) (by omega)).mono ?_
        rintro e w' ⟨rfl, rfl⟩
        rw [hm]
        go_wp2_with fail
        refine bodyPost_ret (v := .tuple #[.agg #[.int .i64 t.a, .int .i64 pg], .bool false, .int .i64 0]) (by simp [results, Tryz.results33, go_sem]) rfl ⟨by rw [hR.out]; rfl, HB3.out _ _ _⟩
    · have hbb : (ps == t.b) = false := by rw [beq_eq_false_iff_ne]; exact eb
      simp only [Pl.runT]; rw [if_neg ea, if_neg eb]
      clear ea eb
      go_enter Tryz.func33, Tryz.ntmps33
      go_wp2_with fail
      refine bodyPost_ret (v := .tuple #[.agg #[.int .i64 0, .int .i64 0], .bool false, .int .i64 7]) (by simp [results, Tryz.results33, go_sem]) rfl ⟨rfl, HB3.out _ _ _⟩
end Go.Proofs.YtpbjpochjagicaaGreatDoorRR

namespace Go.Proofs.YtpbjpochjagicaaGreatDoorRR
open Go.RowKit

theorem CarAt.drew {w : World} {X N : Nat} (c : Pl.Cch) (c_gA c_bA c_hA : Option Addr) (c_gc c_bc c_hc : Nat) (n : Pl.Nt) (n_tA n_sA : Option Addr) (n_tc n_sc : Nat) {rA : Option Addr} {rl rc : Nat} (h : CarAt w X N c c_gA c_bA c_hA c_gc c_bc c_hc n n_tA n_sA n_tc n_sc rA rl rc) : CarAt w.drew X N c c_gA c_bA c_hA c_gc c_bc c_hc n n_tA n_sA n_tc n_sc rA rl rc := ⟨h.car, h.net⟩
theorem along_step {n : Pl.Nt} {c : Pl.Cch} {p : Pl.Place} {way : List Int} {k : Nat} {i ch : Int} (hk : k < way.length) :
    Pl.along n c p (way.drop k) i ch = if (Pl.run n c [] p way[k].toNat).2.2 ≠ 0 then (ch, i, (Pl.run n c [] p way[k].toNat).2.2)
      else Pl.along n c (Pl.run n c [] p way[k].toNat).1 (way.drop (k + 1)) (i + 1) (ch + if (Pl.run n c [] p way[k].toNat).2.1 then 1 else 0) := by
  rw [List.drop_eq_getElem_cons hk, Pl.along]
theorem blk_set {w : World} {b i : Nat} {t : TypeId} {cs : Array Value} (h : w.heap[b]? = some (.cells cs t (0, 0))) (u : Value) : (w.setCell ⟨b, i, none⟩ u).heap[b]? = some (.cells (cs.setIfInBounds i u) t (0, 0)) := by
  simp [World.setCell, Array.getElem?_modify, h]
theorem blk_set2 {w : World} {b : Nat} {t : TypeId} {x y : Value} (h : w.heap[b]? = some (.cells #[x, y] t (0, 0))) (u v : Value) : ((w.setCell ⟨b, 0, none⟩ u).setCell ⟨b, 1, none⟩ v).heap[b]? = some (.cells #[u, v] t (0, 0)) := by
  have := blk_set (blk_set (i := 0) h u) (i := 1) v
  simpa using this
theorem size_setCell (w : World) (a : Addr) (v : Value) : (w.setCell a v).heap.size = w.heap.size := by simp [World.setCell]
theorem blk_alloc {w : World} {b : Nat} {o : Obj} (h : w.heap[b]? = some o) (o' : Obj) : (w.alloc o').heap[b]? = some o := (Below.heap_alloc w o' b (lt_of_block h)).trans h
theorem blk_below {w w' : World} {b B : Nat} {o : Obj} (h : w.heap[b]? = some o) (hb : Below B w w') (hB : b < B) : w'.heap[b]? = some o := (hb.block b hB).trans h
def alongVal (r : Int × Int × Int) : Value := .tuple #[.int .i64 r.1, .int .i64 r.2.1, .int .i64 r.2.2]

set_option maxRecDepth 100000 in
set_option maxHeartbeats 4000000 in
theorem along_any (X N : Nat) (c : Pl.Cch) (c_gA c_bA c_hA : Option Addr) (c_gc c_bc c_hc : Nat) (n : Pl.Nt) (n_tA n_sA : Option Addr) (n_tc n_sc : Nat) (p0 : Pl.Place) (wA : Option Addr) (wc : Nat) (way : List Int) (hway : ∀ x ∈ way, 0 ≤ x ∧ x < n.tracks.length) (w : World) (h : CarAt w X N c c_gA c_bA c_hA c_gc c_bc c_hc n n_tA n_sA n_tc n_sc none 0 0)
    (hr : CReads w w.heap.size c c_gA c_bA c_hA c_gc c_bc c_hc) (hn : NReads w w.heap.size n n_tA n_sA n_tc n_sc) (hw : Ints w w.heap.size wA way) (hwl : way.length ≤ 140737488355328) :
    Calls Tryz.prog 37 #[.pointer (some ⟨X, 0, none⟩), .agg #[.int .i64 p0.1, .int .i64 p0.2], .slice wA way.length wc] w fun e w' => e = .returned (alongVal (Pl.along n c p0 way 0 0)) ∧ Below w.heap.size w w' := by
  have hXs : X < w.heap.size := h.ltX
  have hNs : N < w.heap.size := h.ltN
  have Hc := Lib.hid h; have Hr := Lib.hid hr; have Hn := Lib.hid hn; clear h hr hn
  have hform := hw.form
  clear hw
  have hbx : (w.alloc (.cells #[.int .i64 p0.1, .int .i64 p0.2] 64)).heap[w.heap.size]? = some (.cells #[.int .i64 p0.1, .int .i64 p0.2] 64 (0, 0)) := heap_alloc_new w _
  rcases hform with rfl | ⟨b, off, rfl, hbw, hcell⟩
  · go_enter Tryz.func37, Tryz.ntmps37
    go_wp2
    go_loop [6, 16] (fun v i => v = .int .i64 0 ∧ i = .int .i64 0) (fun _ _ => 0)
    case atStart => exact ⟨rfl, rfl⟩
    case round =>
      obtain ⟨rfl, rfl⟩ := hrel
      go_wp2
      go_ret3
      exact ⟨rfl, (Below.refl _ _).alloc (Nat.le_refl _) _⟩
  · have hR0 : Hid (Pl.along n c p0 way 0 0 = Pl.along n c p0 (way.drop 0) ((0 : Nat) : Int) 0) := rfl
    have Hbx := Lib.hid hbx; clear hbx
    go_enter Tryz.func37, Tryz.ntmps37
    go_wp2
    go_loopw [6, 16] (fun v i wr => ∃ (k : Nat) (p : Pl.Place) (ch : Int), k ≤ way.length ∧ i = .int .i64 k ∧ v = .int .i64 ch ∧ 0 ≤ ch ∧ ch ≤ k ∧ Below w.heap.size w wr ∧ Hid (wr.heap[w.heap.size]? = some (.cells #[.int .i64 p.1, .int .i64 p.2] 64 (0, 0))) ∧
      Hid (Pl.along n c p0 way 0 0 = Pl.along n c p (way.drop k) k ch)) (fun _ i _ => way.length - (intOf i).toNat)
    case atStart => exact ⟨0, p0, 0, Nat.zero_le _, rfl, rfl, by omega, by omega, (Below.refl _ _).alloc (Nat.le_refl _) _, Hbx.out, hR0⟩
    case round =>
      obtain ⟨k, p, ch, hk, rfl, rfl, hc0, hc1, hbel, hblk, hRk⟩ := hrel
      clear hR0 Hbx
      obtain ⟨ps, pg⟩ := p
      by_cases hlt : k < way.length
      · have hck : wr.cell? ⟨b, off + k, none⟩ = some (.int .i64 way[k]) := (hbel.cell (p := ⟨b, off + k, none⟩) hbw).trans (hcell k hlt)
        have hx := hway _ (List.getElem_mem hlt)
        have hst := along_step (n := n) (c := c) (p := (ps, pg)) (i := k) (ch := ch) hlt
        clear hcell
        generalize way[k] = x at hck hx hst
        obtain ⟨m, rfl⟩ : ∃ m : Nat, x = m := ⟨x.toNat, by omega⟩
        rw [Int.toNat_natCast] at hst
        have hm : m < n.tracks.length := by omega
        have q0 : wr.cell? ⟨w.heap.size, 0, none⟩ = some (.int .i64 ps) := blk_cell hblk.out 0
        have q1 : wr.cell? ⟨w.heap.size, 1, none⟩ = some (.int .i64 pg) := blk_cell hblk.out 1
        have hsz : w.heap.size < wr.heap.size := lt_of_block hblk.out
        have hrun := run_any X N c c_gA c_bA c_hA c_gc c_bc c_hc n n_tA n_sA n_tc n_sc none [] 0 (ps, pg) m hm wr (Hc.out.below hbel hXs hNs) ((Hr.out.below hbel).more hbel.size) ((Hn.out.below hbel).more hbel.size) (Ints.nil _ _ _) (by simp)
        generalize hrv : Pl.run n c [] (ps, pg) m = r at hrun hst
        obtain ⟨⟨s, g⟩, chg, bar⟩ := r
        simp only [runVal] at hrun
        simp only at hst
        have HR := Lib.hid hrun
        clear hrun hrv
        by_cases hb0 : bar = 0
        · subst hb0
          rw [if_neg (by simp)] at hst
          cases chg
          · have hN : Hid (Pl.along n c p0 way 0 0 = Pl.along n c (s, g) (way.drop (k + 1)) ((k + 1 : Nat) : Int) ch) := by show _ = _; rw [hRk.out, hst]; simp
            clear hst hRk
            go_wp2_with (go_at_call 33; refine HR.out.mono ?_; rintro e w1 ⟨rfl, hb1⟩; have m1 := Lib.hid ((hb1.block _ hsz).trans hblk.out); have hs1 : w.heap.size < w1.heap.size := lt_of_block m1.out; have z0 : w1.cell? ⟨w.heap.size, 0, none⟩ = some (.int .i64 ps) := blk_cell m1.out 0; have z1 : w1.cell? ⟨w.heap.size, 1, none⟩ = some (.int .i64 pg) := blk_cell m1.out 1; have zf : w1.frozen? ⟨w.heap.size, 0, none⟩ = false := blk_frozen m1.out 0; have zf1 : w1.frozen? ⟨w.heap.size, 1, none⟩ = false := blk_frozen m1.out 1)
            go_roundw
            case rel => exact ⟨k + 1, (s, g), ch, by omega, by go_num, rfl, hc0, by omega, (((hbel.trans (hb1.mono (by omega))).setCell (Nat.le_refl _) _).setCell (Nat.le_refl _) _).alloc (by rw [size_setCell, size_setCell]; omega) _, blk_alloc (blk_set2 m1.out _ _) _, hN⟩
            case measure => simp [intOf]; omega
          · have hN : Hid (Pl.along n c p0 way 0 0 = Pl.along n c (s, g) (way.drop (k + 1)) ((k + 1 : Nat) : Int) (ch + 1)) := by show _ = _; rw [hRk.out, hst]; simp
            clear hst hRk
            go_wp2_with (go_at_call 33; refine HR.out.mono ?_; rintro e w1 ⟨rfl, hb1⟩; have m1 := Lib.hid ((hb1.block _ hsz).trans hblk.out); have hs1 : w.heap.size < w1.heap.size := lt_of_block m1.out; have z0 : w1.cell? ⟨w.heap.size, 0, none⟩ = some (.int .i64 ps) := blk_cell m1.out 0; have z1 : w1.cell? ⟨w.heap.size, 1, none⟩ = some (.int .i64 pg) := blk_cell m1.out 1; have zf : w1.frozen? ⟨w.heap.size, 0, none⟩ = false := blk_frozen m1.out 0; have zf1 : w1.frozen? ⟨w.heap.size, 1, none⟩ = false := blk_frozen m1.out 1)
            go_roundw
            case rel => exact ⟨k + 1, (s, g), ch + 1, by omega, by go_num, rfl, by omega, by omega, (((hbel.trans (hb1.mono (by omega))).setCell (Nat.le_refl _) _).setCell (Nat.le_refl _) _).alloc (by rw [size_setCell, size_setCell]; omega) _, blk_alloc (blk_set2 m1.out _ _) _, hN⟩
            case measure => simp [intOf]; omega
        · rw [if_pos hb0] at hst
          have hN : Hid (Pl.along n c p0 way 0 0 = (ch, (k : Int), bar)) := by show _ = _; rw [hRk.out, hst]
          have hb : (bar != 0) = true := by rw [bne_iff_ne]; exact hb0
          clear hst hRk hb0
          go_wp2_with (go_at_call 33; refine HR.out.mono ?_; rintro e w1 ⟨rfl, hb1⟩)
          go_ret3
          exact ⟨by rw [hN.out]; rfl, (hbel.trans (hb1.mono (by omega))).alloc (by have := hb1.size; omega) _⟩
      · have hN : Hid (Pl.along n c p0 way 0 0 = (ch, -1, 0)) := by show _ = _; rw [hRk.out, List.drop_eq_nil_of_le (by omega)]; rfl
        clear hRk hcell
        go_wp2
        go_ret3
        exact ⟨by rw [hN.out]; rfl, hbel⟩
end Go.Proofs.YtpbjpochjagicaaGreatDoorRR
