/- Walks: Way. -/
import Derived.Test.YtpbjpochjagicaaW32
import Derived.Deep.QuietTactic
import Derived.BigQuiet
namespace Go.Proofs.Ytpbjpochjagicaa
open Go.RowKit

theorem places_gauge : ∀ x ∈ places, 0 ≤ x.2 ∧ x.2 ≤ 3 := by decide
theorem way_in {n : Pl.Nt} {c c' : Pl.Cch} {fr g ds : Int} (h : Pl.asked n c fr g ds = 0) : WayIn n c' places := by
  obtain ⟨h1, h2, h3⟩ := question_b (asked_q h).1
  obtain ⟨hc, hf⟩ := both_check h1
  obtain ⟨k1, k2⟩ := check_tracks hc
  have hs := check_stops hc
  refine ⟨places_length, k1, fun x hx i hi hr => ?_, fun t ht => ⟨(k2 t ht).km0, (k2 t ht).km1⟩⟩
  rw [run_at hi] at hr ⊢
  have := runT_in (k2 _ (List.getElem_mem hi)) (places_gauge x hx) hr
  exact mem_places this.1 (by omega) this.2.2.1 this.2.2.2
theorem start_in {n : Pl.Nt} {c : Pl.Cch} {fr g ds : Int} (h : Pl.asked n c fr g ds = 0) : (fr, g) ∈ places := by
  obtain ⟨h1, h2, h3⟩ := question_b (asked_q h).1
  obtain ⟨hc, hf⟩ := both_check h1
  have hg := (fits_lists hf).1 g h3
  have ho := out_false h2
  have hs := check_stops hc
  exact mem_places ho.1 (by simp; omega) (by simp; omega) (by simp; omega)

/-- The trips found lie in a row. -/
theorem WalkAt.trips {w0 : World} {bf bB : Nat} {w : World} {ts : List Pl.Trip} {es : List (Pl.Place × Nat)} {ck : Nat} {r : Option Nat} (h : WalkAt w0 bf bB w ts es ck r) : ∃ A c, w.cell? ⟨bf, 0, none⟩ = some (.slice A ts.length c) ∧ TripsAt w A ts := by
  obtain ⟨A, c, cs, f1, f2, f3, f4⟩ := h.fnd
  refine ⟨A, c, blk_cell f1 0, fun k t ht => ?_⟩
  have hk : k < ts.length := (List.getElem?_eq_some_iff.1 ht).1
  obtain ⟨tA, tc, e0, e1, e2, e3, e4⟩ := f3.at_ ht
  rcases f2.2 with ⟨_, h2⟩ | ⟨g, cap, cur, hv, _, hh, _, _, hsz, htk⟩
  · omega
  · injection hv with hv
    subst hv
    have hcell : ∀ i u, i < ts.length * 3 → cs[i]? = some u → w.cell? ⟨g, i, none⟩ = some u := by
      intro i u hi hu
      rw [blk_cell hh i, ← hu, ← htk, List.getElem?_take, if_pos hi]
      simp
    exact ⟨g, tA, tc, rfl, lt_of_block hh, hcell _ _ (by omega) e0, hcell _ _ (by omega) e1, hcell _ _ (by omega) e2, e3.ints, e4⟩

/-- What Way hands back. -/
def WayPost (q : Int) (r : Option Pl.Trip) (w : World) (e : Ending) (w' : World) : Prop :=
  ∃ A k c km v, e = .returned (.tuple #[.slice A k c, .int .i64 km, .int .i64 v]) ∧ Below w.heap.size w w' ∧ (q ≠ 0 → v = q ∧ k = 0 ∧ km = 0) ∧ (q = 0 → r = none → v = 11 ∧ k = 0 ∧ km = 0) ∧
    (∀ t, q = 0 → r = some t → v = 0 ∧ k = t.way.length ∧ km = t.km ∧ Ints w' w'.heap.size A t.way)
theorem wayPost_asked {q : Int} {r : Option Pl.Trip} {w w' : World} (hq : q ≠ 0) (hb : Below w.heap.size w w') : WayPost q r w (.returned (.tuple #[.slice none 0 0, .int .i64 0, .int .i64 q])) w' :=
  ⟨none, 0, 0, 0, q, rfl, hb, fun _ => ⟨rfl, rfl, rfl⟩, fun h => absurd h hq, fun _ h => absurd h hq⟩
theorem wayPost_none {w w' : World} (hb : Below w.heap.size w w') : WayPost 0 none w (.returned (.tuple #[.slice none 0 0, .int .i64 0, .int .i64 11])) w' :=
  ⟨none, 0, 0, 0, 11, rfl, hb, fun h => absurd rfl h, fun _ _ => ⟨rfl, rfl, rfl⟩, (fun _ _ h => by cases h)⟩
theorem wayPost_some {A : Option Addr} {c : Nat} {t : Pl.Trip} {w w' : World} (hI : Ints w' w'.heap.size A t.way) (hb : Below w.heap.size w w') : WayPost 0 (some t) w (.returned (.tuple #[.slice A t.way.length c, .int .i64 t.km, .int .i64 0])) w' :=
  ⟨A, t.way.length, c, t.km, 0, rfl, hb, fun h => absurd rfl h, (fun _ h => by cases h), (fun t' _ h => by cases h; exact ⟨rfl, rfl, rfl, hI⟩)⟩

theorem new_six (w1 : World) (o1 o2 o3 o4 o5 o6 : Obj) : ∀ W, W = ((((((w1.alloc o1).alloc o2).alloc o3).alloc o4).alloc o5).alloc o6) →
    W.heap[w1.heap.size]? = some o1 ∧ W.heap[w1.heap.size + 1]? = some o2 ∧ W.heap[w1.heap.size + 1 + 1]? = some o3 ∧ W.heap[w1.heap.size + 1 + 1 + 1]? = some o4 ∧ W.heap[w1.heap.size + 1 + 1 + 1 + 1]? = some o5 ∧ W.heap[w1.heap.size + 1 + 1 + 1 + 1 + 1]? = some o6 ∧
    W.heap.size = w1.heap.size + 6 ∧ Below w1.heap.size w1 W := by
  rintro W rfl
  have h1 := heap_alloc_new w1 o1
  have h2 := heap_alloc_new (w1.alloc o1) o2
  have h3 := heap_alloc_new ((w1.alloc o1).alloc o2) o3
  have h4 := heap_alloc_new (((w1.alloc o1).alloc o2).alloc o3) o4
  have h5 := heap_alloc_new ((((w1.alloc o1).alloc o2).alloc o3).alloc o4) o5
  have h6 := heap_alloc_new (((((w1.alloc o1).alloc o2).alloc o3).alloc o4).alloc o5) o6
  simp only [World.size_alloc] at h2 h3 h4 h5 h6
  refine ⟨blk_alloc (blk_alloc (blk_alloc (blk_alloc (blk_alloc h1 _) _) _) _) _, blk_alloc (blk_alloc (blk_alloc (blk_alloc h2 _) _) _) _, blk_alloc (blk_alloc (blk_alloc h3 _) _) _, blk_alloc (blk_alloc h4 _) _, blk_alloc h5 _, h6, by simp, ?_⟩
  exact ((((((Below.refl _ _).alloc (Nat.le_refl _) _).alloc (by simp <;> omega) _).alloc (by simp <;> omega) _).alloc (by simp <;> omega) _).alloc (by simp <;> omega) _).alloc (by simp <;> omega) _

/-- The world of Way when the walk begins. -/
theorem way_world {w w1 W : World} {X N : Nat} {c : Pl.Cch} {c_gA c_bA c_hA : Option Addr} {c_gc c_bc c_hc : Nat} {n : Pl.Nt} {n_tA n_sA : Option Addr} {n_tc n_sc : Nat} {fr g ds : Int} (hcar : CarAt w1 X N c c_gA c_bA c_hA c_gc c_bc c_hc n n_tA n_sA n_tc n_sc none 0 0) (hb : Below (w.heap.size + 1 + 1 + 1) (((w.alloc (.cells #[.int .i64 n.stops, .slice n_tA n.tracks.length n_tc, .slice n_sA n.shops.length n_sc] 27)).alloc (.cells #[.slice c_gA c.gauges.length c_gc, .int .i64 c.size, .int .i64 c.load, .slice c_bA c.brakes.length c_bc, .slice c_hA c.heats.length c_hc, .bool c.hooks] 30)).alloc (.cells #[.int .i64 ds] 3)) w1)
    (hn : NReads w1 w1.heap.size n n_tA n_sA n_tc n_sc) (hr : CReads w1 w1.heap.size c c_gA c_bA c_hA c_gc c_bc c_hc) (hX : X < w1.heap.size) (hN : N < w1.heap.size)
    (hW : W = ((((((w1.alloc (.cells #[.pointer (some ⟨X, 0, none⟩)] 91)).alloc (.cells #[.int .i64 fr, .int .i64 g] 93)).alloc (.cells #[.slice none 0 0] 107)).alloc (.map #[] 0)).alloc (.cells #[.map (some (w1.heap.size + 1 + 1 + 1))] 108)).alloc (.cells #[.func (.func 73) #[] #[.pointer (some ⟨w.heap.size + 1 + 1, 0, none⟩), .pointer (some ⟨w1.heap.size + 1 + 1, 0, none⟩), .pointer (some ⟨w1.heap.size + 1 + 1 + 1 + 1, 0, none⟩), .pointer (some ⟨w.heap.size, 0, none⟩), .pointer (some ⟨w1.heap.size, 0, none⟩), .pointer (some ⟨w1.heap.size + 1 + 1 + 1 + 1 + 1, 0, none⟩)]] 109))) :
    WayFix W (w.heap.size + 1 + 1) (w1.heap.size + 1 + 1) (w1.heap.size + 1 + 1 + 1 + 1) (w1.heap.size + 1 + 1 + 1) w.heap.size w1.heap.size (w1.heap.size + 1 + 1 + 1 + 1 + 1) X N w1.heap.size c c_gA c_bA c_hA c_gc c_bc c_hc n n_tA n_sA n_tc n_sc ds ∧
    WalkAt W (w1.heap.size + 1 + 1) (w1.heap.size + 1 + 1 + 1) W [] [] 0 none ∧ Below w.heap.size w W ∧ w1.heap.size + 6 = W.heap.size ∧ w.heap.size + 1 + 1 + 1 ≤ w1.heap.size ∧
    W.cell? ⟨w1.heap.size + 1, 0, none⟩ = some (.int .i64 fr) ∧ W.cell? ⟨w1.heap.size + 1, 1, none⟩ = some (.int .i64 g) := by
  obtain ⟨M1, M0, M2⟩ := mid_blk w #[.int .i64 n.stops, .slice n_tA n.tracks.length n_tc, .slice n_sA n.shops.length n_sc] #[.slice c_gA c.gauges.length c_gc, .int .i64 c.size, .int .i64 c.load, .slice c_bA c.brakes.length c_bc, .slice c_hA c.heats.length c_hc, .bool c.hooks] #[.int .i64 ds] 27 30 3
  have hs := hb.size
  simp only [World.size_alloc] at hs
  have m0 := blk_below M0 hb (by omega); have m2 := blk_below M2 hb (by omega)
  obtain ⟨a1, a2, a3, a4, a5, a6, asz, abel⟩ := new_six w1 _ _ _ _ _ _ W hW
  have hbW : Below w.heap.size w W := (((((Below.refl _ w).alloc (Nat.le_refl _) _).alloc (by simp) _).alloc (by simp; omega) _).trans (hb.mono (by omega))).trans (abel.mono (by omega))
  refine ⟨⟨blk_below m2 abel (by omega), a5, blk_below m0 abel (by omega), a1, a6, hcar.below abel hX hN, hn.below abel, hr.below abel, ?_, ⟨by omega, by omega, by omega, by omega⟩⟩,
    ⟨rfl, rfl, rfl, Nat.le_refl _, fun _ _ _ _ => rfl, ⟨none, 0, [], a3, ⟨by simp, .inl ⟨rfl, rfl⟩⟩, rfl, rfl⟩, a4, (fun _ h => by cases h)⟩, hbW, asz.symm, hs, blk_cell a2 0, blk_cell a2 1⟩
  rintro k (rfl | rfl | rfl | rfl | rfl | rfl | rfl) <;> omega

set_option maxRecDepth 100000 in
set_option maxHeartbeats 4000000 in
theorem way_any (n : Pl.Nt) (n_tA n_sA : Option Addr) (n_tc n_sc : Nat) (c : Pl.Cch) (c_gA c_bA c_hA : Option Addr) (c_gc c_bc c_hc : Nat) (fr g ds : Int) (w : World) (hn : NReads w w.heap.size n n_tA n_sA n_tc n_sc) (hr : CReads w w.heap.size c c_gA c_bA c_hA c_gc c_bc c_hc) (hmax : (Pl.found n c fr g ds).length ≤ tripMax) :
    Calls Try.prog 30 #[.agg #[.int .i64 n.stops, .slice n_tA n.tracks.length n_tc, .slice n_sA n.shops.length n_sc], .agg #[.slice c_gA c.gauges.length c_gc, .int .i64 c.size, .int .i64 c.load, .slice c_bA c.brakes.length c_bc, .slice c_hA c.heats.length c_hc, .bool c.hooks], .int .i64 fr, .int .i64 g, .int .i64 ds] w (WayPost (Pl.asked n c fr g ds) (Pl.way n c fr g ds) w) := by
  have hb3 : Below w.heap.size w (((w.alloc (.cells #[.int .i64 n.stops, .slice n_tA n.tracks.length n_tc, .slice n_sA n.shops.length n_sc] 27)).alloc (.cells #[.slice c_gA c.gauges.length c_gc, .int .i64 c.size, .int .i64 c.load, .slice c_bA c.brakes.length c_bc, .slice c_hA c.heats.length c_hc, .bool c.hooks] 30)).alloc (.cells #[.int .i64 ds] 3)) := (((Below.refl _ _).alloc (Nat.le_refl _) _).alloc (by simp) _).alloc (by simp; omega) _
  have hsz : (((w.alloc (.cells #[.int .i64 n.stops, .slice n_tA n.tracks.length n_tc, .slice n_sA n.shops.length n_sc] 27)).alloc (.cells #[.slice c_gA c.gauges.length c_gc, .int .i64 c.size, .int .i64 c.load, .slice c_bA c.brakes.length c_bc, .slice c_hA c.heats.length c_hc, .bool c.hooks] 30)).alloc (.cells #[.int .i64 ds] 3)).heap.size = w.heap.size + 1 + 1 + 1 := by simp
  have Hn := Lib.hid ((hn.below hb3).more (B' := w.heap.size + 1 + 1 + 1) (by omega))
  have Hr := Lib.hid ((hr.below hb3).more (B' := w.heap.size + 1 + 1 + 1) (by omega))
  have HB3 := Lib.hid hb3
  clear hb3 hn hr
  have hmm := @run_makeMap Try.prog
  by_cases hA : Pl.asked n c fr g ds = 0
  · have hQ := asked_yes n n_tA n_sA n_tc n_sc c c_gA c_bA c_hA c_gc c_bc c_hc fr g ds _ (by rw [hsz]; exact Hn.out) (by rw [hsz]; exact Hr.out) hA
    rw [hA]
    have HI := Lib.hid (way_in (c' := c) hA); have HS := Lib.hid (start_in hA)
    have HQ := Lib.hid hQ; have Hmax := Lib.hid hmax
    clear hQ hA hmax
    have hRw : Hid (Pl.leastFrom none (Pl.found n c fr g ds) = Pl.way n c fr g ds) := rfl
    generalize Pl.way n c fr g ds = R at hRw ⊢
    go_enter Try.func30, Try.ntmps30
    go_wp2_with fail
    refine HQ.out.mono ?_
    rintro e w1 ⟨X, N, rfl, hcar, hX, hN, hb⟩
    clear HQ
    rw [hsz] at hb hX hN
    have hs1 : w.heap.size + 1 + 1 + 1 ≤ w1.heap.size := by have := hb.size; rwa [hsz] at this
    have hn1 := (Hn.out.below hb).more hs1; have hr1 := (Hr.out.below hb).more hs1
    have hway := fun W h => way_world (W := W) (fr := fr) (g := g) hcar hb hn1 hr1 hcar.ltX hcar.ltN h
    have HWay := Lib.hid hway
    clear hway hb hcar hn1 hr1 Hn Hr HB3 hX hN
    go_wp2_with fail
    obtain ⟨W, hW⟩ : ∃ W, W = ((((((w1.alloc (.cells #[.pointer (some ⟨X, 0, none⟩)] 91)).alloc (.cells #[.int .i64 fr, .int .i64 g] 93)).alloc (.cells #[.slice none 0 0] 107)).alloc (.map #[] 0)).alloc (.cells #[.map (some (w1.heap.size + 1 + 1 + 1))] 108)).alloc (.cells #[.func (.func 73) #[] #[.pointer (some ⟨w.heap.size + 1 + 1, 0, none⟩), .pointer (some ⟨w1.heap.size + 1 + 1, 0, none⟩), .pointer (some ⟨w1.heap.size + 1 + 1 + 1 + 1, 0, none⟩), .pointer (some ⟨w.heap.size, 0, none⟩), .pointer (some ⟨w1.heap.size, 0, none⟩), .pointer (some ⟨w1.heap.size + 1 + 1 + 1 + 1 + 1, 0, none⟩)]] 109)) := ⟨_, rfl⟩
    obtain ⟨hF, hWA, hbW, hsW, hs3, z0, z1⟩ := HWay.out W hW
    rw [← hW]
    have hT : TripIn places 30 ([].map (Prod.fst : Pl.Place × Nat → Pl.Place)) (fr, g) ⟨[], 0, 0⟩ :=
      ⟨HS.out, by simp, by simp, by simp, by have := places_length; simp; omega, by simp, by simp, by simp, by simp, by simp⟩
    have hwalk := walk_any c c_gA c_bA c_hA c_gc c_bc c_hc n n_tA n_sA n_tc n_sc hF HI.out 30 (fr, g) ⟨[], 0, 0⟩ none 0 W [] [] 0 none hWA (IntsN.nil _ _ _) (by simp) hT (by simpa [Pl.found] using Hmax.out)
    have HWalk : Hid (Calls Try.prog 73 #[.agg #[.int .i64 fr, .int .i64 g], .agg #[.slice none 0 0, .int .i64 0, .int .i64 0], .pointer (some ⟨w.heap.size + 1 + 1, 0, none⟩), .pointer (some ⟨w1.heap.size + 1 + 1, 0, none⟩), .pointer (some ⟨w1.heap.size + 1 + 1 + 1 + 1, 0, none⟩), .pointer (some ⟨w.heap.size, 0, none⟩), .pointer (some ⟨w1.heap.size, 0, none⟩), .pointer (some ⟨w1.heap.size + 1 + 1 + 1 + 1 + 1, 0, none⟩)] W
        (WalkPost W (w1.heap.size + 1 + 1) (w1.heap.size + 1 + 1 + 1) W (Pl.found n c fr g ds) [] none)) := hwalk
    have HbW := Lib.hid hbW
    clear hwalk hT hF hWA hbW HWay hW z0 z1 HI HS
    refine HWalk.out.mono ?_
    rintro e w2 ⟨⟨v, rfl⟩, ck, r, hA2, hK2, hR2⟩
    obtain ⟨A, ca, hcf, hTr⟩ := hA2.trips
    have hbW2 : Below w.heap.size w w2 := ⟨hA2.os.trans HbW.out.os, hA2.tape.trans HbW.out.tape, hA2.output.trans HbW.out.output, Nat.le_trans HbW.out.size hA2.size, fun k hk => (hA2.old k (by omega) (by omega) (by omega)).trans (HbW.out.block k hk)⟩
    have hL := least_any A ca (Pl.found n c fr g ds) w2 hTr Hmax.out
    have HW2 := Lib.hid hbW2; have HL := Lib.hid hL
    rw [hRw.out] at HL
    clear hRw hbW2 hL hTr hA2 hK2 hR2 HWalk Hmax
    cases R with
    | none =>
      go_wp2_with (go_at_call 76; refine HL.out.mono ?_; rintro e w3 ⟨rfl, hb3⟩)
      go_ret3
      exact wayPost_none ((HW2.out.trans (hb3.mono HW2.out.size)).alloc (by have := HW2.out.size; have := hb3.size; omega) _)
    | some t =>
      go_wp2_with (go_at_call 76; refine HL.out.mono ?_; rintro e w3 ⟨tA, tc, rfl, hI3, hb3⟩; have t0 := blk_cell (heap_alloc_new w3 (.cells #[.slice tA t.way.length tc, .int .i64 t.km, .int .i64 t.changes] 111)) 0; have t1 := blk_cell (heap_alloc_new w3 (.cells #[.slice tA t.way.length tc, .int .i64 t.km, .int .i64 t.changes] 111)) 1)
      go_quiet (fail)
      go_wp2_with fail
      go_ret3
      have hbz : Below w3.heap.size w3 (w3.alloc (.cells #[.slice tA t.way.length tc, .int .i64 t.km, .int .i64 t.changes] 111)) := (Below.refl _ _).alloc (Nat.le_refl _) _
      have hs3' := HW2.out.size; have hs4 := hb3.size
      exact wayPost_some (Ints.drewN ((hI3.below hbz).more hbz.size) _) (below_drewN ((HW2.out.trans (hb3.mono HW2.out.size)).trans (hbz.mono (by omega))) _)
  · have HQ := Lib.hid (asked_no n n_tA n_sA n_tc n_sc c c_gA c_bA c_hA c_gc c_bc c_hc fr g ds _ (by rw [hsz]; exact Hn.out) (by rw [hsz]; exact Hr.out) hA)
    have hb : (Pl.asked n c fr g ds != 0) = true := by rw [bne_iff_ne]; exact hA
    have HA : Hid (Pl.asked n c fr g ds ≠ 0) := hA
    clear hA hmax
    generalize Pl.way n c fr g ds = R
    go_enter Try.func30, Try.ntmps30
    go_wp2_with fail
    refine HQ.out.mono ?_
    rintro e w1 ⟨rfl, hb1⟩
    rw [hsz] at hb1
    have HW := Lib.hid (HB3.out.trans (hb1.mono (by omega)))
    have hs := HW.out.size
    clear hb1
    go_wp2_with fail
    go_ret3
    exact wayPost_asked HA.out ((HW.out.alloc hs _).alloc (by simp; omega) _)
end Go.Proofs.Ytpbjpochjagicaa
