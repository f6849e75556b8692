/- Walks: lines without which a car would not come: Must. -/
import Derived.Test.YtpbjpochjagicaaGreatDoorRRW54
import Derived.Test.YtpbjpochjagicaaGreatDoorRRW15
namespace Go.Proofs.YtpbjpochjagicaaGreatDoorRR
open Go.RowKit

/-- What Must hands back, where the question is a good one. -/
def MustPost (n : Pl.Nt) (c : Pl.Cch) (fr g ds : Int) (w : World) (e : Ending) (w' : World) : Prop :=
  ∃ A k cp v, e = .returned (.tuple #[.slice A k cp, .int .i64 v]) ∧ Below w.heap.size w w' ∧ (Pl.comes n c [] (fr, g) ds = false → v = 11 ∧ k = 0) ∧
    (Pl.comes n c [] (fr, g) ds = true → v = 0 ∧ k = (Pl.must n c fr g ds).length ∧ Ints w' w'.heap.size A (Pl.must n c fr g ds))
theorem without_length {n : Pl.Nt} {k : Nat} (hk : k < n.tracks.length) : (Pl.without n k).tracks.length = n.tracks.length - 1 := by
  show (n.tracks.eraseIdx k).length = _
  rw [List.length_eraseIdx, if_pos hk]

theorem Trks.far {w w' : World} {B g : Nat} {ts : List Pl.Trk} (h : Trks w B (some ⟨g, 0, none⟩) ts) (hb : w'.heap[g]? = w.heap[g]?) : Trks w' B (some ⟨g, 0, none⟩) ts := fun k t hk => by
  obtain ⟨b, off, h1, h2, h3⟩ := h k t hk
  refine ⟨b, off, h1, h2, fun j v hv => ?_⟩
  injection h1 with h1
  injection h1 with e1 e2 _
  subst e1
  rw [World.cell?_of_block (a := ⟨g, off + k * 9 + j, none⟩) hb]
  exact h3 j v hv
theorem own_set_at {w : World} {b : Nat} {A : Option Addr} {c : Nat} {xs : List Int} (h : OwnInts w b A c xs) {q : Nat} {z : Array Value} {T : TypeId} (hq : w.heap[q]? = some (.cells z T (0, 0))) (hT : T ≠ 3) (i : Nat) (u : Value) : OwnInts (w.setCell ⟨q, i, none⟩ u) b A c xs := by
  refine ⟨h.1, ?_⟩
  rcases h.2 with h2 | ⟨g, cap, cur, hv, hg, hh, r⟩
  · exact .inl h2
  · refine .inr ⟨g, cap, cur, hv, hg, ?_, r⟩
    refine (Below.heap_setCell w ⟨q, i, none⟩ u g (fun e => ?_)).trans hh
    have e : g = q := e
    subst e
    rw [hq] at hh
    injection hh with hh
    injection hh with _ hh _
    exact hT hh

set_option maxRecDepth 100000 in
set_option maxHeartbeats 4000000 in
theorem must_any (n : Pl.Nt) (n_tA n_sA : Option Addr) (n_tc n_sc : Nat) (c : Pl.Cch) (c_gA c_bA c_hA : Option Addr) (c_gc c_bc c_hc : Nat) (fr g ds : Int) (w : World) (hn : NReads w w.heap.size n n_tA n_sA n_tc n_sc) (hr : CReads w w.heap.size c c_gA c_bA c_hA c_gc c_bc c_hc) (hA : Pl.asked n c fr g ds = 0) :
    Calls Tryz.prog 18 #[.agg #[.int .i64 n.stops, .slice n_tA n.tracks.length n_tc, .slice n_sA n.shops.length n_sc], .agg #[.slice c_gA c.gauges.length c_gc, .int .i64 c.size, .int .i64 c.load, .slice c_bA c.brakes.length c_bc, .slice c_hA c.heats.length c_hc, .bool c.hooks], .int .i64 fr, .int .i64 g, .int .i64 ds] w (MustPost n c fr g ds w) := by
  have hb2 : Below w.heap.size w ((w.alloc (.cells #[.int .i64 n.stops, .slice n_tA n.tracks.length n_tc, .slice n_sA n.shops.length n_sc] 25)).alloc (.cells #[.slice c_gA c.gauges.length c_gc, .int .i64 c.size, .int .i64 c.load, .slice c_bA c.brakes.length c_bc, .slice c_hA c.heats.length c_hc, .bool c.hooks] 28)) := ((Below.refl _ _).alloc (Nat.le_refl _) _).alloc (by simp) _
  have hsz : ((w.alloc (.cells #[.int .i64 n.stops, .slice n_tA n.tracks.length n_tc, .slice n_sA n.shops.length n_sc] 25)).alloc (.cells #[.slice c_gA c.gauges.length c_gc, .int .i64 c.size, .int .i64 c.load, .slice c_bA c.brakes.length c_bc, .slice c_hA c.heats.length c_hc, .bool c.hooks] 28)).heap.size = w.heap.size + 1 + 1 := by simp
  have Hn := Lib.hid ((hn.below hb2).more (B' := w.heap.size + 1 + 1) (by omega))
  have Hr := Lib.hid ((hr.below hb2).more (B' := w.heap.size + 1 + 1) (by omega))
  have HM0 : Hid (((w.alloc (.cells #[.int .i64 n.stops, .slice n_tA n.tracks.length n_tc, .slice n_sA n.shops.length n_sc] 25)).alloc (.cells #[.slice c_gA c.gauges.length c_gc, .int .i64 c.size, .int .i64 c.load, .slice c_bA c.brakes.length c_bc, .slice c_hA c.heats.length c_hc, .bool c.hooks] 28)).heap[w.heap.size]? = some (.cells #[.int .i64 n.stops, .slice n_tA n.tracks.length n_tc, .slice n_sA n.shops.length n_sc] 25 (0, 0))) := blk_alloc (heap_alloc_new w _) _
  have HM1 : Hid (((w.alloc (.cells #[.int .i64 n.stops, .slice n_tA n.tracks.length n_tc, .slice n_sA n.shops.length n_sc] 25)).alloc (.cells #[.slice c_gA c.gauges.length c_gc, .int .i64 c.size, .int .i64 c.load, .slice c_bA c.brakes.length c_bc, .slice c_hA c.heats.length c_hc, .bool c.hooks] 28)).heap[w.heap.size + 1]? = some (.cells #[.slice c_gA c.gauges.length c_gc, .int .i64 c.size, .int .i64 c.load, .slice c_bA c.brakes.length c_bc, .slice c_hA c.heats.length c_hc, .bool c.hooks] 28 (0, 0))) := by
    have := heap_alloc_new (w.alloc (.cells #[.int .i64 n.stops, .slice n_tA n.tracks.length n_tc, .slice n_sA n.shops.length n_sc] 25)) (.cells #[.slice c_gA c.gauges.length c_gc, .int .i64 c.size, .int .i64 c.load, .slice c_bA c.brakes.length c_bc, .slice c_hA c.heats.length c_hc, .bool c.hooks] 28)
    show _ = _
    simpa using this
  have HB2 := Lib.hid hb2
  have hq := asked_q hA
  obtain ⟨hboth, hfo, hgm⟩ := question_b hq.1
  obtain ⟨hck, hft⟩ := both_check hboth
  have hfo' := out_false hfo
  have hgr := (fits_lists hft).1 g hgm
  have hT8 := (check_tracks hck).1
  have HU : Hid (∀ k x, Pl.Gets (Pl.run (Pl.without n k) c []) (Pl.without n k).tracks.length (fr, g) x → x ∈ places) := fun k => gets_in (Pl.check_without hck k) hfo'.1 hfo'.2 (by show 0 ≤ g; omega) (by show g ≤ 3; omega)
  have HU0 := Lib.hid (asked_in (c' := c) (reb := []) hA)
  have HQ := Lib.hid (asked_yes n n_tA n_sA n_tc n_sc c c_gA c_bA c_hA c_gc c_bc c_hc fr g ds _ (by rw [hsz]; exact Hn.out) (by rw [hsz]; exact Hr.out) hA)
  clear hb2 hn hr hA hsz hq hboth hfo hgm hck hft hfo' hgr
  go_enter Tryz.func18, Tryz.ntmps18
  go_wp2_with fail
  refine HQ.out.mono ?_
  rintro e w1 ⟨X, N, rfl, hcar, hX, hN, hb⟩
  clear HQ
  have Hcar := Lib.hid hcar; have Hb := Lib.hid hb
  have hXs := hcar.ltX
  have hNs := hcar.ltN
  clear hcar hb
  go_wp2_with fail
  have hs1 : w.heap.size + 1 + 1 ≤ w1.heap.size := by have := Hb.out.size; simpa using this
  obtain ⟨w2, hw2⟩ : ∃ w2, w2 = w1.alloc (.cells #[.int .i64 fr, .int .i64 g] 64) := ⟨_, rfl⟩
  have hb12 : Below w1.heap.size w1 w2 := by rw [hw2]; exact (Below.refl _ _).alloc (Nat.le_refl _) _
  have hpb : w2.heap[w1.heap.size]? = some (.cells #[.int .i64 fr, .int .i64 g] 64 (0, 0)) := by rw [hw2]; exact heap_alloc_new w1 _
  have hW2 : Below w.heap.size w w2 := (HB2.out.trans (Hb.out.mono (by simp; omega))).trans (hb12.mono (by omega))
  have hbb : Below (w.heap.size + 1 + 1) ((w.alloc (.cells #[.int .i64 n.stops, .slice n_tA n.tracks.length n_tc, .slice n_sA n.shops.length n_sc] 25)).alloc (.cells #[.slice c_gA c.gauges.length c_gc, .int .i64 c.size, .int .i64 c.load, .slice c_bA c.brakes.length c_bc, .slice c_hA c.heats.length c_hc, .bool c.hooks] 28)) w2 := (Hb.out.mono (by simp)).trans (hb12.mono hs1)
  have hm0 := blk_below HM0.out hbb (by omega)
  have hm1 := blk_below HM1.out hbb (by omega)
  have Hcar2 := Lib.hid (Hcar.out.below hb12 hXs hNs)
  have Hn2 := Lib.hid ((Hn.out.below hbb).more (Nat.le_trans hs1 hb12.size))
  have Hr2 := Lib.hid ((Hr.out.below hbb).more (Nat.le_trans hs1 hb12.size))
  have HM02 := Lib.hid hm0
  have HM12 := Lib.hid hm1
  have HPB := Lib.hid hpb
  have HW2 := Lib.hid hW2
  have hs2 : w1.heap.size < w2.heap.size := lt_of_block hpb
  have c0 : w2.cell? ⟨w1.heap.size, 0, none⟩ = some (.int .i64 fr) := blk_cell hpb 0
  have c1 : w2.cell? ⟨w1.heap.size, 1, none⟩ = some (.int .i64 g) := blk_cell hpb 1
  clear hb12 hpb hW2 hbb hm0 hm1 Hb Hcar Hn Hr HM0 HM1 HB2 hX hN
  rw [← hw2]
  clear hw2
  generalize hp1 : w1.heap.size = PB at *
  clear hp1
  go_wp2_with fail
  refine (comes_any X N c c_gA c_bA c_hA c_gc c_bc c_hc n n_tA n_sA n_tc n_sc none [] 0 (fr, g) ds w2 Hcar2.out Hr2.out Hn2.out (Ints.nil _ _ _) (by simp) places HU0.out places_length).mono ?_
  rintro e w3 ⟨rfl, hb3⟩
  have HW3 := Lib.hid (HW2.out.trans (hb3.mono HW2.out.size))
  clear Hcar2
  cases hC : Pl.comes n c [] (fr, g) ds
  · clear hb3
    go_wp2_with fail
    go_ret2
    exact ⟨none, 0, 0, 11, rfl, HW3.out, fun _ => ⟨rfl, rfl⟩, fun h => by rw [hC] at h; cases h⟩
  · have D0 : Hid (Below w2.heap.size w2 w3) := hb3
    have hm0 := blk_below HM02.out hb3 (lt_of_block HM02.out)
    have z1 : w3.cell? ⟨w.heap.size, 1, none⟩ = some (.slice n_tA n.tracks.length n_tc) := blk_cell hm0 1
    have hmust : Hid (∀ k, k < n.tracks.length → Pl.comes (Pl.without n k) c [] (fr, g) ds = false → Pl.mustTo n c fr g ds (k + 1) = Pl.mustTo n c fr g ds k ++ [(k : Int)]) := fun k _ h => Pl.mustTo_in h
    have hskip : Hid (∀ k, k < n.tracks.length → Pl.comes (Pl.without n k) c [] (fr, g) ds = true → Pl.mustTo n c fr g ds (k + 1) = Pl.mustTo n c fr g ds k) := fun k _ h => Pl.mustTo_out h
    have hlen : Hid (∀ k, (Pl.mustTo n c fr g ds k).length ≤ k) := fun k => Pl.mustTo_length n c fr g ds k
    have hs3 : w2.heap.size ≤ w3.heap.size := hb3.size
    clear hb3 hm0 HW3
    go_wp2_with fail
    go_loopw [15, 39] (fun lv iv wr => ∃ (A : Option Addr) (cp k : Nat), k ≤ n.tracks.length ∧ lv = .slice A (Pl.mustTo n c fr g ds k).length cp ∧ iv = .int .i64 k ∧ Hid (OwnInts wr w2.heap.size A cp (Pl.mustTo n c fr g ds k)) ∧ Hid (Below w2.heap.size w2 wr)) (fun _ i _ => n.tracks.length - (intOf i).toNat)
    case atStart => exact ⟨none, 0, 0, by omega, rfl, rfl, OwnInts.nil _ _, D0⟩
    case round =>
      obtain ⟨A, cp, k, hk, rfl, rfl, hO, hB⟩ := hrel
      clear z1
      have hsr : w2.heap.size ≤ wr.heap.size := hB.out.size
      by_cases hkl : k < n.tracks.length
      · have hm0 := blk_below HM02.out hB.out (lt_of_block HM02.out)
        have hm1 := blk_below HM12.out hB.out (lt_of_block HM12.out)
        have hpb := blk_below HPB.out hB.out hs2
        have M0 := Lib.hid hm0
        have M1 := Lib.hid hm1
        have MP := Lib.hid hpb
        have z0 : wr.cell? ⟨w.heap.size, 0, none⟩ = some (.int .i64 n.stops) := blk_cell hm0 0
        have z1 : wr.cell? ⟨w.heap.size, 1, none⟩ = some (.slice n_tA n.tracks.length n_tc) := blk_cell hm0 1
        have z2 : wr.cell? ⟨w.heap.size, 2, none⟩ = some (.slice n_sA n.shops.length n_sc) := blk_cell hm0 2
        have hl0 := lt_of_block hm0
        have hl1 := lt_of_block hm1
        have hlp := lt_of_block hpb
        have hkk : (k : Int) < (n.tracks.length : Int) := by omega
        clear hm0 hm1 hpb
        go_wp2_with fail
        have hR0 : Hid ((wr.alloc (.cells #[.int .i64 n.stops, .slice n_tA n.tracks.length n_tc, .slice n_sA n.shops.length n_sc] 25)).heap[wr.heap.size]? = some (.cells #[.int .i64 n.stops, .slice n_tA n.tracks.length n_tc, .slice n_sA n.shops.length n_sc] 25 (0, 0))) := heap_alloc_new wr _
        have hBa : Below w2.heap.size w2 (wr.alloc (.cells #[.int .i64 n.stops, .slice n_tA n.tracks.length n_tc, .slice n_sA n.shops.length n_sc] 25)) := hB.out.alloc hsr _
        have hsa : (wr.alloc (.cells #[.int .i64 n.stops, .slice n_tA n.tracks.length n_tc, .slice n_sA n.shops.length n_sc] 25)).heap.size = wr.heap.size + 1 := by simp
        have HBa := Lib.hid hBa
        have HNa := Lib.hid ((Hn2.out.below hBa).more hBa.size)
        have HOa := Lib.hid (own_alloc hO.out (.cells #[.int .i64 n.stops, .slice n_tA n.tracks.length n_tc, .slice n_sA n.shops.length n_sc] 25))
        have Ma0 := Lib.hid (blk_alloc M0.out (.cells #[.int .i64 n.stops, .slice n_tA n.tracks.length n_tc, .slice n_sA n.shops.length n_sc] 25))
        have Ma1 := Lib.hid (blk_alloc M1.out (.cells #[.int .i64 n.stops, .slice n_tA n.tracks.length n_tc, .slice n_sA n.shops.length n_sc] 25))
        have MaP := Lib.hid (blk_alloc MP.out (.cells #[.int .i64 n.stops, .slice n_tA n.tracks.length n_tc, .slice n_sA n.shops.length n_sc] 25))
        have HSA := Lib.hid hsa
        clear hBa hsa z0 z1 z2
        generalize wr.alloc (.cells #[.int .i64 n.stops, .slice n_tA n.tracks.length n_tc, .slice n_sA n.shops.length n_sc] 25) = wa at *
        refine (clone_trks n_tA n_tc n.tracks wa HNa.out.tracks (by omega)).mono ?_
        rintro e wb ⟨A1, c1, rfl, hown1, hb1⟩
        obtain ⟨g1, hg1⟩ : ∃ g1, A1 = some ⟨g1, 0, none⟩ := by
          rcases hown1.2 with ⟨_, h0⟩ | ⟨g1, _, _, h0, _⟩
          · omega
          · injection h0 with h0; exact ⟨g1, h0⟩
        subst hg1
        have HO1 := Lib.hid hown1
        have HB1 := Lib.hid hb1
        have hgb : wa.heap.size ≤ g1 := own_ge hown1 g1 rfl
        clear hown1 hb1
        go_wp2_with fail
        refine (delete_trks wa.heap.size g1 c1 n.tracks k hkl wb HO1.out (by omega)).mono ?_
        rintro e wc ⟨rfl, hT, hb2⟩
        have hbc := HB1.out.trans hb2
        have HT := Lib.hid hT
        have HBC := Lib.hid hbc
        have hxr := blk_below hR0.out hbc (by rw [HSA.out]; omega)
        have q0 : wc.cell? ⟨wr.heap.size, 0, none⟩ = some (.int .i64 n.stops) := blk_cell hxr 0
        have q1 : wc.cell? ⟨wr.heap.size, 1, none⟩ = some (.slice n_tA n.tracks.length n_tc) := blk_cell hxr 1
        have f1 : wc.frozen? ⟨wr.heap.size, 1, none⟩ = false := blk_frozen hxr 1
        have HXR := Lib.hid hxr
        have hy := blk_below Ma1.out hbc (by rw [HSA.out]; omega)
        have y0 : wc.cell? ⟨w.heap.size + 1, 0, none⟩ = some (.slice c_gA c.gauges.length c_gc) := blk_cell hy 0
        have y1 : wc.cell? ⟨w.heap.size + 1, 1, none⟩ = some (.int .i64 c.size) := blk_cell hy 1
        have y2 : wc.cell? ⟨w.heap.size + 1, 2, none⟩ = some (.int .i64 c.load) := blk_cell hy 2
        have y3 : wc.cell? ⟨w.heap.size + 1, 3, none⟩ = some (.slice c_bA c.brakes.length c_bc) := blk_cell hy 3
        have y4 : wc.cell? ⟨w.heap.size + 1, 4, none⟩ = some (.slice c_hA c.heats.length c_hc) := blk_cell hy 4
        have y5 : wc.cell? ⟨w.heap.size + 1, 5, none⟩ = some (.bool c.hooks) := blk_cell hy 5
        have hp := blk_below MaP.out hbc (by rw [HSA.out]; omega)
        have p0 : wc.cell? ⟨PB, 0, none⟩ = some (.int .i64 fr) := blk_cell hp 0
        have p1 : wc.cell? ⟨PB, 1, none⟩ = some (.int .i64 g) := blk_cell hp 1
        have hne1 : w.heap.size + 1 ≠ wr.heap.size := by omega
        have hne2 : PB ≠ wr.heap.size := by omega
        have hsc : wa.heap.size ≤ wc.heap.size := hbc.size
        have hpl : PB < wc.heap.size := lt_of_block hp
        clear hT hb2 hbc hxr hy hp HB1 HO1 hR0
        go_wp2_with fail
        have hsw : wa.heap.size = wr.heap.size + 1 := HSA.out
        have hXd : (wc.setCell ⟨wr.heap.size, 1, none⟩ (.slice (some ⟨g1, 0, none⟩) (n.tracks.length - 1) c1)).heap[wr.heap.size]? = some (.cells #[.int .i64 n.stops, .slice (some ⟨g1, 0, none⟩) (n.tracks.length - 1) c1, .slice n_sA n.shops.length n_sc] 25 (0, 0)) := by
          have := blk_set (i := 1) HXR.out (.slice (some ⟨g1, 0, none⟩) (n.tracks.length - 1) c1)
          simpa using this
        have hBd : Below w2.heap.size w2 (wc.setCell ⟨wr.heap.size, 1, none⟩ (.slice (some ⟨g1, 0, none⟩) (n.tracks.length - 1) c1)) := (HBa.out.trans (HBC.out.mono (by omega))).setCell hsr _
        have hszd : (wc.setCell ⟨wr.heap.size, 1, none⟩ (.slice (some ⟨g1, 0, none⟩) (n.tracks.length - 1) c1)).heap.size = wc.heap.size := size_setCell _ _ _
        have hTd : Trks (wc.setCell ⟨wr.heap.size, 1, none⟩ (.slice (some ⟨g1, 0, none⟩) (n.tracks.length - 1) c1)) wc.heap.size (some ⟨g1, 0, none⟩) (Pl.without n k).tracks := Trks.far HT.out (Below.heap_setCell wc _ _ g1 (by show g1 ≠ wr.heap.size; omega))
        have hOd := own_set_at (own_below HOa.out HBC.out (Nat.le_refl _)) HXR.out (by decide) 1 (.slice (some ⟨g1, 0, none⟩) (n.tracks.length - 1) c1)
        have HXD := Lib.hid hXd
        have HBD := Lib.hid hBd
        have HSZD := Lib.hid hszd
        have HTD := Lib.hid hTd
        have HOD := Lib.hid hOd
        clear hXd hBd hszd hTd hOd q0 q1 f1 y0 y1 y2 y3 y4 y5 p0 p1 hne1 hne2 hsc hpl HXR HT HOa
        generalize wc.setCell ⟨wr.heap.size, 1, none⟩ (.slice (some ⟨g1, 0, none⟩) (n.tracks.length - 1) c1) = wd at *
        have hs2d : w2.heap.size ≤ wd.heap.size := HBD.out.size
        have hcar := car_made wd c c_gA c_bA c_hA c_gc c_bc c_hc (Pl.without n k) (some ⟨g1, 0, none⟩) n_sA c1 n_sc (N := wr.heap.size) (by rw [without_length hkl]; exact HXD.out)
        rw [HSZD.out] at hcar
        have HCAR := Lib.hid hcar
        have HNe : Hid (NReads (wd.alloc (.cells (#[.slice c_gA c.gauges.length c_gc, .int .i64 c.size, .int .i64 c.load, .slice c_bA c.brakes.length c_bc, .slice c_hA c.heats.length c_hc, .bool c.hooks] ++ #[.pointer (some ⟨wr.heap.size, 0, none⟩), .slice none 0 0]) 58)) (wd.alloc (.cells (#[.slice c_gA c.gauges.length c_gc, .int .i64 c.size, .int .i64 c.load, .slice c_bA c.brakes.length c_bc, .slice c_hA c.heats.length c_hc, .bool c.hooks] ++ #[.pointer (some ⟨wr.heap.size, 0, none⟩), .slice none 0 0]) 58)).heap.size (Pl.without n k) (some ⟨g1, 0, none⟩) n_sA c1 n_sc) :=
          ⟨(HTD.out.alloc (Nat.le_of_eq HSZD.out.symm) _).more (by simp [HSZD.out]), ((Hn2.out.shops.below HBD.out).alloc hs2d _).more (by simp; omega), by rw [without_length hkl]; omega, Hn2.out.lenS⟩
        have HRe : Hid (CReads (wd.alloc (.cells (#[.slice c_gA c.gauges.length c_gc, .int .i64 c.size, .int .i64 c.load, .slice c_bA c.brakes.length c_bc, .slice c_hA c.heats.length c_hc, .bool c.hooks] ++ #[.pointer (some ⟨wr.heap.size, 0, none⟩), .slice none 0 0]) 58)) (wd.alloc (.cells (#[.slice c_gA c.gauges.length c_gc, .int .i64 c.size, .int .i64 c.load, .slice c_bA c.brakes.length c_bc, .slice c_hA c.heats.length c_hc, .bool c.hooks] ++ #[.pointer (some ⟨wr.heap.size, 0, none⟩), .slice none 0 0]) 58)).heap.size c c_gA c_bA c_hA c_gc c_bc c_hc) := ((Hr2.out.below HBD.out).alloc hs2d _).more (by simp; omega)
        refine (comes_any wc.heap.size wr.heap.size c c_gA c_bA c_hA c_gc c_bc c_hc (Pl.without n k) (some ⟨g1, 0, none⟩) n_sA c1 n_sc none [] 0 (fr, g) ds _ HCAR.out HRe.out HNe.out (Ints.nil _ _ _) (by simp) places (HU.out k) places_length).mono ?_
        rintro e wf ⟨rfl, hbf⟩
        have HBF := Lib.hid ((HBD.out.alloc hs2d (.cells (#[.slice c_gA c.gauges.length c_gc, .int .i64 c.size, .int .i64 c.load, .slice c_bA c.brakes.length c_bc, .slice c_hA c.heats.length c_hc, .bool c.hooks] ++ #[.pointer (some ⟨wr.heap.size, 0, none⟩), .slice none 0 0]) 58)).trans (hbf.mono (by simp; omega)))
        have HOF := Lib.hid (own_below (own_alloc HOD.out (.cells (#[.slice c_gA c.gauges.length c_gc, .int .i64 c.size, .int .i64 c.load, .slice c_bA c.brakes.length c_bc, .slice c_hA c.heats.length c_hc, .bool c.hooks] ++ #[.pointer (some ⟨wr.heap.size, 0, none⟩), .slice none 0 0]) 58)) hbf (Nat.le_refl _))
        have hsf : w2.heap.size ≤ wf.heap.size := HBF.out.size
        clear hcar HCAR HNe HRe hbf HXD HBD HTD HOD
        have hlk := hlen.out k
        cases hcm : Pl.comes (Pl.without n k) c [] (fr, g) ds
        · have hN := Lib.hid (hmust.out k hkl hcm)
          clear hcm
          go_wp2_with (at_builtin; refine wpl_app_ints rfl (.tmp 58) (.tmp 60) 23 rfl w2.heap.size Tryz.underlying23 int_info A cp (Pl.mustTo n c fr g ds k) rfl (own_alloc HOF.out _) (wf.heap.size + 1) (some ⟨wf.heap.size, 0, none⟩) 1 [(k : Int)] rfl (ints_one _ _ _ (by simp) (by omega)) (by simp; omega) (by simp; omega) ?_; intro A2 c2 w4 hown4 hg4 hat4; have hfar : Below w2.heap.size w2 w4 := HBF.out.trans (((Below.refl _ _).alloc hsf _).grown hg4 (by simp; omega) (own_from HOF.out)); have Hfar := Lib.hid hfar; have Hown4 := Lib.hid hown4; clear hfar hown4 hg4 hat4)
          go_roundw
          case rel => exact ⟨A2, c2, k + 1, by omega, (by rw [hN.out]; simp), by go_num, (by show OwnInts _ _ _ _ _; rw [hN.out]; exact Hown4.out), Hfar⟩
          case measure => simp [intOf]; omega
        · have hN := Lib.hid (hskip.out k hkl hcm)
          clear hcm
          go_wp2_with fail
          go_roundw
          case rel => exact ⟨A, cp, k + 1, by omega, (by rw [hN.out]), by go_num, (by show OwnInts _ _ _ _ _; rw [hN.out]; exact HOF.out), HBF⟩
          case measure => simp [intOf]; omega
      · obtain rfl : k = n.tracks.length := by omega
        have hz := hO.out.ints
        have HZ := Lib.hid hz
        clear hz hO
        go_wp2_with fail
        go_ret2
        exact ⟨A, _, cp, 0, rfl, HW2.out.trans (hB.out.mono HW2.out.size), (fun h => by rw [hC] at h; cases h), fun _ => ⟨rfl, rfl, HZ.out⟩⟩
end Go.Proofs.YtpbjpochjagicaaGreatDoorRR
