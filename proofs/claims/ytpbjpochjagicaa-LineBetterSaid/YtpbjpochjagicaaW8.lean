/- Walks: a car moves over a line. -/
import Derived.Test.YtpbjpochjagicaaW7
import Derived.BigRegion
import Derived.ChangeAlike
namespace Go.Proofs.Ytpbjpochjagicaa
open Go.RowKit

def runVal (r : Pl.Place × Bool × Int) : Value := .tuple #[.agg #[.int .i64 r.1.1, .int .i64 r.1.2], .bool r.2.1, .int .i64 r.2.2]

theorem run_at {n : Pl.Nt} {c : Pl.Cch} {reb : List Int} {p : Pl.Place} {k : Nat} (hk : k < n.tracks.length) : Pl.run n c reb p k = Pl.runT n.shops c (decide ((k : Int) ∈ reb)) p n.tracks[k] := by
  rw [Pl.run, List.getD_eq_getElem?_getD, List.getElem?_eq_getElem hk]; rfl

theorem Ints.setCell {w : World} {B : Nat} {A : Option Addr} {xs : List Int} (h : Ints w B A xs) {p : Addr} (hp : B ≤ p.block) (u : Value) : Ints (w.setCell p u) B A xs :=
  h.keep fun q hq => World.cell?_setCell_other w p q u (fun e => by subst e; omega)
theorem Ints.drewN {w : World} {B : Nat} {A : Option Addr} {xs : List Int} (h : Ints w B A xs) (n : Nat) : Ints (w.drewN n) B A xs := h.keep fun _ _ => rfl
theorem Ints.drew {w : World} {B : Nat} {A : Option Addr} {xs : List Int} (h : Ints w B A xs) : Ints w.drew B A xs := h.keep fun _ _ => rfl

theorem mid_blk (w : World) (c1 c2 c3 : Array Value) (t1 t2 t3 : TypeId) :
    (((w.alloc (.cells c1 t1)).alloc (.cells c2 t2)).alloc (.cells c3 t3)).heap[w.heap.size + 1]? = some (.cells c2 t2 (0, 0)) ∧
    (((w.alloc (.cells c1 t1)).alloc (.cells c2 t2)).alloc (.cells c3 t3)).heap[w.heap.size]? = some (.cells c1 t1 (0, 0)) ∧
    (((w.alloc (.cells c1 t1)).alloc (.cells c2 t2)).alloc (.cells c3 t3)).heap[w.heap.size + 1 + 1]? = some (.cells c3 t3 (0, 0)) := by
  refine ⟨?_, ?_, ?_⟩
  · rw [Below.heap_alloc _ _ _ (by simp)]
    have := heap_alloc_new (w.alloc (.cells c1 t1)) (.cells c2 t2)
    simpa using this
  · rw [Below.heap_alloc _ _ _ (by simp; omega), Below.heap_alloc _ _ _ (by simp)]
    exact heap_alloc_new w _
  · have := heap_alloc_new ((w.alloc (.cells c1 t1)).alloc (.cells c2 t2)) (.cells c3 t3)
    simpa using this
theorem blk_cell {w : World} {g : Nat} {cs : Array Value} {t : TypeId} (h : w.heap[g]? = some (.cells cs t (0, 0))) (i : Nat) : w.cell? ⟨g, i, none⟩ = cs[i]? := cell_of_row w g i cs t (0, 0) h
theorem blk_frozen {w : World} {g : Nat} {cs : Array Value} {t : TypeId} (h : w.heap[g]? = some (.cells cs t (0, 0))) (i : Nat) : w.frozen? ⟨g, i, none⟩ = false := by simp [World.frozen?, h]

set_option maxRecDepth 100000 in
set_option maxHeartbeats 8000000 in
theorem run_any (X N : Nat) (c : Pl.Cch) (c_gA c_bA c_hA : Option Addr) (c_gc c_bc c_hc : Nat) (n : Pl.Nt) (n_tA n_sA : Option Addr) (n_tc n_sc : Nat) (rA : Option Addr) (reb : List Int) (rc : Nat) (p : Pl.Place) (k : Nat) (hk : k < n.tracks.length) (w : World) (h : CarAt w X N c c_gA c_bA c_hA c_gc c_bc c_hc n n_tA n_sA n_tc n_sc rA reb.length rc)
    (hr : CReads w w.heap.size c c_gA c_bA c_hA c_gc c_bc c_hc) (hn : NReads w w.heap.size n n_tA n_sA n_tc n_sc) (hreb : Ints w w.heap.size rA reb) (hrl : reb.length ≤ 140737488355328) :
    Calls Try.prog 75 #[.pointer (some ⟨X, 0, none⟩), .agg #[.int .i64 p.1, .int .i64 p.2], .int .i64 k] w fun e w' => e = .returned (runVal (Pl.run n c reb p k)) ∧ Below w.heap.size w w' := by
  rw [run_at hk]
  obtain ⟨ps, pg⟩ := p
  simp only
  obtain ⟨b, off, htA, hbw, hcell⟩ : ∃ b off, n_tA = some ⟨b, off, none⟩ ∧ b < w.heap.size ∧ ∀ j v, (trkCells n.tracks[k])[j]? = some v → w.cell? ⟨b, off + k * 9 + j, none⟩ = some v := by
    obtain ⟨b, off, h1, h2, h3⟩ := hn.tracks k _ (List.getElem?_eq_getElem hk)
    exact ⟨b, off, h1, h2, h3⟩
  subst htA
  have HB := fun W h1 h2 h3 => barred_any X N c c_gA c_bA c_hA c_gc c_bc c_hc n (some ⟨b, off, none⟩) n_sA n_tc n_sc rA reb.length rc k hk W h1 h2 h3
  have hlt := hn.lenT
  have hls := hn.lenS
  generalize n.tracks[k] = t at hcell HB ⊢
  obtain ⟨t0, t1, t2, t3, t4, t5, t6, t7, t8⟩ := trk_cells (w := w) (b := b) (o := off + k * 9) (t := t) (fun i v hv => hcell i v hv)
  clear hcell
  have hXs : X < w.heap.size := h.ltX
  have hNs : N < w.heap.size := h.ltN
  have hX1 : X < w.heap.size + 1 := by omega
  have hX2 : X < w.heap.size + 1 + 1 := by omega
  have hN1 : N < w.heap.size + 1 := by omega
  have hN2 : N < w.heap.size + 1 + 1 := by omega
  have hb1 : b < w.heap.size + 1 := by omega
  have hb2 : b < w.heap.size + 1 + 1 := by omega
  have p6 := h.c6
  have p2 := h.n2
  have p7 := h.c7
  have p1 := h.n1
  have hki : (k : Int) < (n.tracks.length : Int) := by omega
  have hb3 : ∀ (o1 o2 o3 : Obj), Below w.heap.size w (((w.alloc o1).alloc o2).alloc o3) := fun o1 o2 o3 => (((Below.refl _ _).alloc (Nat.le_refl _) _).alloc (by simp) _).alloc (by simp; omega) _
  have HB3 := Lib.hid hb3; clear hb3
  have HBR := Lib.hid HB; clear HB
  have Hc := Lib.hid h; have Hr := Lib.hid hr; have Hn := Lib.hid hn; have Hreb := Lib.hid hreb; clear h hr hn hreb
  by_cases ea : ps = t.a
  · have hba : (ps == t.a) = true := by rw [beq_iff_eq]; exact ea
    simp only [Pl.runT]; rw [if_pos ea]
    clear ea
    cases hm : decide ((k : Int) ∈ reb)
    · go_enter Try.func75, Try.ntmps75
      go_wp2_with fail
      refine (contains_any _ _ _ _ w.heap.size _ (Hreb.out.below (HB3.out _ _ _)) (by omega)).mono ?_
      rintro e w' ⟨rfl, rfl⟩
      rw [hm]
      go_wp2_with fail
      refine (HBR.out _ (Hc.out.below (HB3.out _ _ _) hXs hNs) ((Hr.out.below (HB3.out _ _ _)).more (by simp; omega)) ((Hn.out.below (HB3.out _ _ _)).more (by simp; omega))).mono ?_
      rintro e w1 ⟨A, c0, rfl, hown, hb1⟩
      have m1 := (hb1.block _ (by simp)).trans (mid_blk w #[.int .i64 ps, .int .i64 pg] #[.int .i64 t.b, .int .i64 0] #[.int .i64 t.a, .int .i64 t.b, .int .i64 t.km, .int .i64 t.gauge, .int .i64 t.room, .int .i64 t.brake, .int .i64 t.heat, .int .i64 t.load, .bool t.ferry] 93 93 47).1
      have m0 := (hb1.block _ (by simp; omega)).trans (mid_blk w #[.int .i64 ps, .int .i64 pg] #[.int .i64 t.b, .int .i64 0] #[.int .i64 t.a, .int .i64 t.b, .int .i64 t.km, .int .i64 t.gauge, .int .i64 t.room, .int .i64 t.brake, .int .i64 t.heat, .int .i64 t.load, .bool t.ferry] 93 93 47).2.1
      have m2 := (hb1.block _ (by simp)).trans (mid_blk w #[.int .i64 ps, .int .i64 pg] #[.int .i64 t.b, .int .i64 0] #[.int .i64 t.a, .int .i64 t.b, .int .i64 t.km, .int .i64 t.gauge, .int .i64 t.room, .int .i64 t.brake, .int .i64 t.heat, .int .i64 t.load, .bool t.ferry] 93 93 47).2.2
      have z0 : w1.cell? ⟨w.heap.size + 1, 0, none⟩ = some (.int .i64 t.b) := blk_cell m1 0
      have z1 : w1.cell? ⟨w.heap.size + 1, 1, none⟩ = some (.int .i64 0) := blk_cell m1 1
      have zf : w1.frozen? ⟨w.heap.size + 1, 0, none⟩ = false := blk_frozen m1 0
      have zf1 : w1.frozen? ⟨w.heap.size + 1, 1, none⟩ = false := blk_frozen m1 1
      have y0 : w1.cell? ⟨w.heap.size, 0, none⟩ = some (.int .i64 ps) := blk_cell m0 0
      have y1 : w1.cell? ⟨w.heap.size, 1, none⟩ = some (.int .i64 pg) := blk_cell m0 1
      have x3 : w1.cell? ⟨w.heap.size + 1 + 1, 3, none⟩ = some (.int .i64 t.gauge) := blk_cell m2 3
      have hzs : w.heap.size + 1 < w1.heap.size := by have := hb1.size; simp at this; omega
      have hbW : Below w.heap.size w w1 := (HB3.out _ _ _).trans (hb1.mono (by simp; omega))
      have HbW := Lib.hid hbW; clear hbW
      clear m0 m1 m2
      cases hbar : Pl.barred c t with
      | cons bb L =>
        rw [hbar] at hown
        have hR : Hid (Pl.runTo n.shops c false (ps, pg) t t.b = ((0, 0), false, bb)) := by show _ = _; simp [Pl.runTo, hbar]
        obtain ⟨g, o, rfl, hg, hcc⟩ : ∃ g o, A = some ⟨g, o, none⟩ ∧ g < w1.heap.size ∧ w1.cell? ⟨g, o, none⟩ = some (.int .i64 bb) := by
          obtain ⟨g, o, h1, h2, h3⟩ := hown.ints 0 bb rfl
          exact ⟨g, o, h1, h2, h3⟩
        have hgw : w.heap.size + 3 ≤ g := by
          rcases hown.2 with ⟨h2, _⟩ | ⟨g', cap, cur, hv, hg', _⟩
          · cases h2
          · injection hv with hv; injection hv with hv; injection hv with hv; subst hv; simpa using hg'
        have hgn : g ≠ w.heap.size + 1 := by omega
        have hgn' : w.heap.size + 1 ≠ g := by omega
        clear hbar hown hb1
        go_wp2_with fail
        go_region
        all_goals (go_wp2_with fail)
        all_goals (refine bodyPost_ret (v := .tuple #[.agg #[.int .i64 0, .int .i64 0], .bool false, .int .i64 bb]) (by simp [results, Try.results75, go_sem, z0, z1]) rfl ⟨by rw [hR.out]; rfl, ?_⟩)
        all_goals first | exact (((HbW.out).setCell (by simp) _).setCell (by simp) _).drew | exact (((HbW.out).drew.setCell (by simp) _).setCell (by simp) _)
      | nil =>
        rw [hbar] at hown
        have Hc1 := Lib.hid ((Hc.out.below (HB3.out _ _ _) hXs hNs).below hb1 (by simp; omega) (by simp; omega))
        have x6 : w1.cell? ⟨X, 6, none⟩ = some (.pointer (some ⟨N, 0, none⟩)) := Hc1.out.c6
        have x2 : w1.cell? ⟨N, 2, none⟩ = some (.slice n_sA n.shops.length n_sc) := Hc1.out.n2
        have hXe : X ≠ w.heap.size + 1 := by omega
        have hNe : N ≠ w.heap.size + 1 := by omega
        have Hn1 := Lib.hid ((Hn.out.below (HB3.out _ _ _)).below (hb1.mono (by simp; omega)))
        clear hown hb1
        cases hch : (t.gauge != pg)
        · have hch' : t.gauge = pg := by simpa using hch
          have hR : Hid (Pl.runTo n.shops c false (ps, pg) t t.b = ((t.b, t.gauge), false, 0)) := by show _ = _; simp [Pl.runTo, hbar, hch']
          clear hch' hbar
          go_wp2_with fail
          go_quiet (fail)
          go_wp2_with fail
          refine bodyPost_ret (v := .tuple #[.agg #[.int .i64 t.b, .int .i64 t.gauge], .bool false, .int .i64 0]) (by simp [results, Try.results75, go_sem, z0, z1]) rfl ⟨by rw [hR.out]; rfl, ?_⟩
          (repeat (first | exact HbW.out | refine Below.setCell ?_ (by simp) _ | refine below_drewN ?_ _))
        · have hch' : t.gauge ≠ pg := by simpa using hch
          cases hsh : decide (ps ∈ n.shops)
          · have hR : Hid (Pl.runTo n.shops c false (ps, pg) t t.b = ((0, 0), false, 8)) := by show _ = _; have hx : ps ∉ n.shops := (by simpa using hsh); simp [Pl.runTo, hbar, hch', hx]
            clear hch' hbar
            go_wp2_with fail
            (go_quiet ((go_at_call 92; exact quiet_left (contains_any _ _ _ _ w.heap.size _ (((Hn1.out.shops.setCell (by simp) _).drewN _)) (by omega)))))
            go_wp2_with fail
            refine bodyPost_ret (v := .tuple #[.agg #[.int .i64 0, .int .i64 0], .bool false, .int .i64 8]) (by simp [results, Try.results75, go_sem, z0, z1]) rfl ⟨by rw [hR.out]; rfl, ?_⟩
            (repeat (first | exact HbW.out | refine Below.setCell ?_ (by simp) _ | refine below_drewN ?_ _))
          · have hR : Hid (Pl.runTo n.shops c false (ps, pg) t t.b = ((t.b, t.gauge), true, 0)) := by show _ = _; have hx : ps ∈ n.shops := (by simpa using hsh); simp [Pl.runTo, hbar, hch', hx]
            clear hch' hbar
            go_wp2_with fail
            (go_quiet ((go_at_call 92; exact quiet_left (contains_any _ _ _ _ w.heap.size _ (((Hn1.out.shops.setCell (by simp) _).drewN _)) (by omega)))))
            go_wp2_with fail
            refine bodyPost_ret (v := .tuple #[.agg #[.int .i64 t.b, .int .i64 t.gauge], .bool true, .int .i64 0]) (by simp [results, Try.results75, go_sem, z0, z1]) rfl ⟨by rw [hR.out]; rfl, ?_⟩
            (repeat (first | exact HbW.out | refine Below.setCell ?_ (by simp) _ | refine below_drewN ?_ _))
    · have hR : Hid (Pl.runTo n.shops c true (ps, pg) t t.b = ((t.b, pg), false, 0)) := by show _ = _; simp [Pl.runTo]
      go_enter Try.func75, Try.ntmps75
      go_wp2_with fail
      refine (contains_any _ _ _ _ w.heap.size _ (Hreb.out.below (HB3.out _ _ _)) (by omega)).mono ?_
      rintro e w' ⟨rfl, rfl⟩
      rw [hm]
      go_wp2_with fail
      refine bodyPost_ret (v := .tuple #[.agg #[.int .i64 t.b, .int .i64 pg], .bool false, .int .i64 0]) (by simp [results, Try.results75, go_sem]) rfl ⟨by rw [hR.out]; rfl, HB3.out _ _ _⟩
  · have hba : (ps == t.a) = false := by rw [beq_eq_false_iff_ne]; exact ea
    by_cases eb : ps = t.b
    · have hbb : (ps == t.b) = true := by rw [beq_iff_eq]; exact eb
      simp only [Pl.runT]; rw [if_neg ea, if_pos eb]
      clear ea eb
      cases hm : decide ((k : Int) ∈ reb)
      · go_enter Try.func75, Try.ntmps75
        go_wp2_with fail
        refine (contains_any _ _ _ _ w.heap.size _ (Hreb.out.below (HB3.out _ _ _)) (by omega)).mono ?_
        rintro e w' ⟨rfl, rfl⟩
        rw [hm]
        go_wp2_with fail
        refine (HBR.out _ (Hc.out.below (HB3.out _ _ _) hXs hNs) ((Hr.out.below (HB3.out _ _ _)).more (by simp; omega)) ((Hn.out.below (HB3.out _ _ _)).more (by simp; omega))).mono ?_
        rintro e w1 ⟨A, c0, rfl, hown, hb1⟩
        have m1 := (hb1.block _ (by simp)).trans (mid_blk w #[.int .i64 ps, .int .i64 pg] #[.int .i64 t.a, .int .i64 0] #[.int .i64 t.a, .int .i64 t.b, .int .i64 t.km, .int .i64 t.gauge, .int .i64 t.room, .int .i64 t.brake, .int .i64 t.heat, .int .i64 t.load, .bool t.ferry] 93 93 47).1
        have m0 := (hb1.block _ (by simp; omega)).trans (mid_blk w #[.int .i64 ps, .int .i64 pg] #[.int .i64 t.a, .int .i64 0] #[.int .i64 t.a, .int .i64 t.b, .int .i64 t.km, .int .i64 t.gauge, .int .i64 t.room, .int .i64 t.brake, .int .i64 t.heat, .int .i64 t.load, .bool t.ferry] 93 93 47).2.1
        have m2 := (hb1.block _ (by simp)).trans (mid_blk w #[.int .i64 ps, .int .i64 pg] #[.int .i64 t.a, .int .i64 0] #[.int .i64 t.a, .int .i64 t.b, .int .i64 t.km, .int .i64 t.gauge, .int .i64 t.room, .int .i64 t.brake, .int .i64 t.heat, .int .i64 t.load, .bool t.ferry] 93 93 47).2.2
        have z0 : w1.cell? ⟨w.heap.size + 1, 0, none⟩ = some (.int .i64 t.a) := blk_cell m1 0
        have z1 : w1.cell? ⟨w.heap.size + 1, 1, none⟩ = some (.int .i64 0) := blk_cell m1 1
        have zf : w1.frozen? ⟨w.heap.size + 1, 0, none⟩ = false := blk_frozen m1 0
        have zf1 : w1.frozen? ⟨w.heap.size + 1, 1, none⟩ = false := blk_frozen m1 1
        have y0 : w1.cell? ⟨w.heap.size, 0, none⟩ = some (.int .i64 ps) := blk_cell m0 0
        have y1 : w1.cell? ⟨w.heap.size, 1, none⟩ = some (.int .i64 pg) := blk_cell m0 1
        have x3 : w1.cell? ⟨w.heap.size + 1 + 1, 3, none⟩ = some (.int .i64 t.gauge) := blk_cell m2 3
        have hzs : w.heap.size + 1 < w1.heap.size := by have := hb1.size; simp at this; omega
        have hbW : Below w.heap.size w w1 := (HB3.out _ _ _).trans (hb1.mono (by simp; omega))
        have HbW := Lib.hid hbW; clear hbW
        clear m0 m1 m2
        cases hbar : Pl.barred c t with
        | cons bb L =>
          rw [hbar] at hown
          have hR : Hid (Pl.runTo n.shops c false (ps, pg) t t.a = ((0, 0), false, bb)) := by show _ = _; simp [Pl.runTo, hbar]
          obtain ⟨g, o, rfl, hg, hcc⟩ : ∃ g o, A = some ⟨g, o, none⟩ ∧ g < w1.heap.size ∧ w1.cell? ⟨g, o, none⟩ = some (.int .i64 bb) := by
            obtain ⟨g, o, h1, h2, h3⟩ := hown.ints 0 bb rfl
            exact ⟨g, o, h1, h2, h3⟩
          have hgw : w.heap.size + 3 ≤ g := by
            rcases hown.2 with ⟨h2, _⟩ | ⟨g', cap, cur, hv, hg', _⟩
            · cases h2
            · injection hv with hv; injection hv with hv; injection hv with hv; subst hv; simpa using hg'
          have hgn : g ≠ w.heap.size + 1 := by omega
          have hgn' : w.heap.size + 1 ≠ g := by omega
          clear hbar hown hb1
          go_wp2_with fail
          go_region
          all_goals (go_wp2_with fail)
          all_goals (refine bodyPost_ret (v := .tuple #[.agg #[.int .i64 0, .int .i64 0], .bool false, .int .i64 bb]) (by simp [results, Try.results75, go_sem, z0, z1]) rfl ⟨by rw [hR.out]; rfl, ?_⟩)
          all_goals first | exact (((HbW.out).setCell (by simp) _).setCell (by simp) _).drew | exact (((HbW.out).drew.setCell (by simp) _).setCell (by simp) _)
        | nil =>
          rw [hbar] at hown
          have Hc1 := Lib.hid ((Hc.out.below (HB3.out _ _ _) hXs hNs).below hb1 (by simp; omega) (by simp; omega))
          have x6 : w1.cell? ⟨X, 6, none⟩ = some (.pointer (some ⟨N, 0, none⟩)) := Hc1.out.c6
          have x2 : w1.cell? ⟨N, 2, none⟩ = some (.slice n_sA n.shops.length n_sc) := Hc1.out.n2
          have hXe : X ≠ w.heap.size + 1 := by omega
          have hNe : N ≠ w.heap.size + 1 := by omega
          have Hn1 := Lib.hid ((Hn.out.below (HB3.out _ _ _)).below (hb1.mono (by simp; omega)))
          clear hown hb1
          cases hch : (t.gauge != pg)
          · have hch' : t.gauge = pg := by simpa using hch
            have hR : Hid (Pl.runTo n.shops c false (ps, pg) t t.a = ((t.a, t.gauge), false, 0)) := by show _ = _; simp [Pl.runTo, hbar, hch']
            clear hch' hbar
            go_wp2_with fail
            go_quiet (fail)
            go_wp2_with fail
            refine bodyPost_ret (v := .tuple #[.agg #[.int .i64 t.a, .int .i64 t.gauge], .bool false, .int .i64 0]) (by simp [results, Try.results75, go_sem, z0, z1]) rfl ⟨by rw [hR.out]; rfl, ?_⟩
            (repeat (first | exact HbW.out | refine Below.setCell ?_ (by simp) _ | refine below_drewN ?_ _))
          · have hch' : t.gauge ≠ pg := by simpa using hch
            cases hsh : decide (ps ∈ n.shops)
            · have hR : Hid (Pl.runTo n.shops c false (ps, pg) t t.a = ((0, 0), false, 8)) := by show _ = _; have hx : ps ∉ n.shops := (by simpa using hsh); simp [Pl.runTo, hbar, hch', hx]
              clear hch' hbar
              go_wp2_with fail
              (go_quiet ((go_at_call 92; exact quiet_left (contains_any _ _ _ _ w.heap.size _ (((Hn1.out.shops.setCell (by simp) _).drewN _)) (by omega)))))
              go_wp2_with fail
              refine bodyPost_ret (v := .tuple #[.agg #[.int .i64 0, .int .i64 0], .bool false, .int .i64 8]) (by simp [results, Try.results75, go_sem, z0, z1]) rfl ⟨by rw [hR.out]; rfl, ?_⟩
              (repeat (first | exact HbW.out | refine Below.setCell ?_ (by simp) _ | refine below_drewN ?_ _))
            · have hR : Hid (Pl.runTo n.shops c false (ps, pg) t t.a = ((t.a, t.gauge), true, 0)) := by show _ = _; have hx : ps ∈ n.shops := (by simpa using hsh); simp [Pl.runTo, hbar, hch', hx]
              clear hch' hbar
              go_wp2_with fail
              (go_quiet ((go_at_call 92; exact quiet_left (contains_any _ _ _ _ w.heap.size _ (((Hn1.out.shops.setCell (by simp) _).drewN _)) (by omega)))))
              go_wp2_with fail
              refine bodyPost_ret (v := .tuple #[.agg #[.int .i64 t.a, .int .i64 t.gauge], .bool true, .int .i64 0]) (by simp [results, Try.results75, go_sem, z0, z1]) rfl ⟨by rw [hR.out]; rfl, ?_⟩
              (repeat (first | exact HbW.out | refine Below.setCell ?_ (by simp) _ | refine below_drewN ?_ _))
      · have hR : Hid (Pl.runTo n.shops c true (ps, pg) t t.a = ((t.a, pg), false, 0)) := by show _ = _; simp [Pl.runTo]
        go_enter Try.func75, Try.ntmps75
        go_wp2_with fail
        refine (contains_any _ _ _ _ w.heap.size _ (Hreb.out.below (HB3.out _ _ _)) (by omega)).mono ?_
        rintro e w' ⟨rfl, rfl⟩
        rw [hm]
        go_wp2_with fail
        refine bodyPost_ret (v := .tuple #[.agg #[.int .i64 t.a, .int .i64 pg], .bool false, .int .i64 0]) (by simp [results, Try.results75, go_sem]) rfl ⟨by rw [hR.out]; rfl, HB3.out _ _ _⟩
    · have hbb : (ps == t.b) = false := by rw [beq_eq_false_iff_ne]; exact eb
      simp only [Pl.runT]; rw [if_neg ea, if_neg eb]
      clear ea eb
      go_enter Try.func75, Try.ntmps75
      go_wp2_with fail
      refine bodyPost_ret (v := .tuple #[.agg #[.int .i64 0, .int .i64 0], .bool false, .int .i64 7]) (by simp [results, Try.results75, go_sem]) rfl ⟨rfl, HB3.out _ _ _⟩
end Go.Proofs.Ytpbjpochjagicaa

