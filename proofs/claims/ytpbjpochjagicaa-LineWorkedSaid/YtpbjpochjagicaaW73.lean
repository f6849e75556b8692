/- Walks: does a car come to a station, line by line, where some lines are rebuilt: steps (by gen_steps.py). -/
import Derived.Test.YtpbjpochjagicaaW49
import Derived.Test.YtpbjpochjagicaaWk
import Derived.Test.YtpbjpochjagicaaW67
import Derived.Deep.DeepCutAuto
import Derived.BigQuiet
namespace Go.Proofs.Ytpbjpochjagicaa
open Go.RowKit

theorem gets_ok {n : Pl.Nt} {c : Pl.Cch} {reb : List Int} {p : Pl.Place} (hn : Pl.check n = 0) (h1 : 0 ≤ p.1) (h2 : p.1 ≤ n.stops - 1) (h3 : 0 ≤ p.2) (h4 : p.2 ≤ 3) :
    ∀ y, Pl.Gets (Pl.run n c reb) n.tracks.length p y → 0 ≤ y.1 ∧ y.1 ≤ n.stops - 1 ∧ 0 ≤ y.2 ∧ y.2 ≤ 3 := by
  intro y hy
  induction hy with
  | refl => exact ⟨h1, h2, h3, h4⟩
  | step hx hi hr ih =>
    rw [run_at hi] at hr ⊢
    exact runT_in ((check_tracks hn).2 _ (List.getElem_mem hi)) ⟨ih.2.2.1, ih.2.2.2⟩ hr
/-- The stations and bogies met so far, in two rows of the call's own. -/
structure StSt (w1 wr : World) (base : Nat) (ss gs : List Int) (SA : Option Addr) (sc : Nat) (GA : Option Addr) (gc : Nat) : Prop where
  s : OwnInts wr base SA sc ss
  g : OwnInts wr base GA gc gs
  ap : Apart SA GA
  bel : Below base w1 wr
  big : base ≤ wr.heap.size
section
variable {w1 wr w' : World} {base : Nat} {ss gs : List Int} {SA GA : Option Addr} {sc gc : Nat}
theorem StSt.below (h : StSt w1 wr base ss gs SA sc GA gc) (hb : Below wr.heap.size wr w') : StSt w1 w' base ss gs SA sc GA gc :=
  ⟨own_below h.s hb (Nat.le_refl _), own_below h.g hb (Nat.le_refl _), h.ap, h.bel.trans (hb.mono h.big), Nat.le_trans h.big hb.size⟩
theorem StSt.alloc (h : StSt w1 wr base ss gs SA sc GA gc) (o : Obj) : StSt w1 (wr.alloc o) base ss gs SA sc GA gc := h.below ((Below.refl _ _).alloc (Nat.le_refl _) o)
theorem StSt.pushS {A2 : Option Addr} {c2 : Nat} {x : Int} (h : StSt w1 wr base ss gs SA sc GA gc) (ho : OwnInts w' base A2 c2 (ss ++ [x])) (hg : wr.grownBy w' (Value.slice SA ss.length sc).ownBlock)
    (hat : A2.map (·.block) = SA.map (·.block) ∨ A2.map (·.block) = some wr.heap.size) : StSt w1 w' base (ss ++ [x]) gs A2 c2 GA gc :=
  ⟨ho, own_other h.g hg h.ap, apart_grown h.g hat h.ap, h.bel.grown hg h.big (own_from h.s), Nat.le_trans h.big hg.size⟩
theorem StSt.pushG {A2 : Option Addr} {c2 : Nat} {x : Int} (h : StSt w1 wr base ss gs SA sc GA gc) (ho : OwnInts w' base A2 c2 (gs ++ [x])) (hg : wr.grownBy w' (Value.slice GA gs.length gc).ownBlock)
    (hat : A2.map (·.block) = GA.map (·.block) ∨ A2.map (·.block) = some wr.heap.size) : StSt w1 w' base ss (gs ++ [x]) SA sc A2 c2 :=
  ⟨own_other h.s hg h.ap.symm, ho, (apart_grown h.s hat h.ap.symm).symm, h.bel.grown hg h.big (own_from h.g), Nat.le_trans h.big hg.size⟩
end
theorem drewN_below (w : World) (k : Nat) : Below w.heap.size w (w.drewN k) := ⟨rfl, rfl, rfl, Nat.le_refl _, fun _ _ => rfl⟩
/-- The slot of a found place. -/
def memTo (met : List Pl.Place) (x : Pl.Place) (j : Nat) : Bool := decide (x ∈ met.take j)
theorem memTo_step {met : List Pl.Place} {x : Pl.Place} {j : Nat} (h : j < met.length) : memTo met x (j + 1) = (memTo met x j || decide (met[j] = x)) := by
  unfold memTo
  rw [List.take_add_one, List.getElem?_eq_getElem h]
  simp only [Option.toList_some, List.mem_append, List.mem_singleton, Bool.decide_or]
  by_cases e : met[j] = x
  · simp [e]
  · have e2 : ¬ x = met[j] := fun h => e h.symm
    simp [e, e2]
theorem memTo_all {met : List Pl.Place} {x : Pl.Place} {j : Nat} (h : met.length ≤ j) : memTo met x j = decide (x ∈ met) := by unfold memTo; rw [List.take_of_length_le h]

def StepsPost (b : Bool) (w : World) (e : Ending) (w' : World) : Prop := e = .returned (.tuple #[.bool b, .bool true]) ∧ Below w.heap.size w w'
set_option maxRecDepth 20000 in
set_option maxHeartbeats 20000000 in
theorem steps_any (n : Pl.Nt) (n_tA n_sA : Option Addr) (n_tc n_sc : Nat) (c : Pl.Cch) (c_gA c_bA c_hA : Option Addr) (c_gc c_bc c_hc : Nat) (A : Option Addr) (cp : Nat) (reb : List Int) (fr ga ds : Int) (w : World) (hn : NReads w w.heap.size n n_tA n_sA n_tc n_sc) (hr : CReads w w.heap.size c c_gA c_bA c_hA c_gc c_bc c_hc) (hx : Ints w w.heap.size A reb) (hl : reb.length ≤ 1000) (hq : Pl.question n c fr ga = 0) :
    Calls Try.prog 23 #[.agg #[.int .i64 n.stops, .slice n_tA n.tracks.length n_tc, .slice n_sA n.shops.length n_sc], .agg #[.slice c_gA c.gauges.length c_gc, .int .i64 c.size, .int .i64 c.load, .slice c_bA c.brakes.length c_bc, .slice c_hA c.heats.length c_hc, .bool c.hooks], .slice A reb.length cp, .int .i64 fr, .int .i64 ga, .int .i64 ds] w (StepsPost (Pl.comes n c reb (fr, ga) ds) w) := by
  obtain ⟨hqb, hqo, hqg⟩ := question_b hq
  have hck := both_check hqb
  have hfo := out_false hqo
  have hgr := (fits_lists hck.2).1 ga hqg
  have hT8 : n.tracks.length ≤ 8 := (check_tracks hck.1).1
  have hst6 := check_stops hck.1
  have HGO : Hid (∀ y, Pl.Gets (Pl.run n c reb) n.tracks.length (fr, ga) y → (0 ≤ y.1 ∧ y.1 ≤ n.stops - 1 ∧ 0 ≤ y.2 ∧ y.2 ≤ 3) ∧ y.2 ∈ c.gauges ∧ y ∈ places) := fun y hy =>
    ⟨gets_ok (p := (fr, ga)) hck.1 hfo.1 hfo.2 (by show 0 ≤ ga; omega) (by show ga ≤ 3; omega) y hy, Pl.gets_gauge (p := (fr, ga)) hqg hy, gets_in (p := (fr, ga)) hck.1 hfo.1 hfo.2 (by show 0 ≤ ga; omega) (by show ga ≤ 3; omega) y hy⟩
  have HCK := Lib.hid hck
  have HTR : Hid (∀ i, i < n.tracks.length → TrkOk n.stops (n.tracks.getD i default)) := fun i hi => trk_in hck.1 hi
  have HRR : Hid (Pl.comes n c reb (fr, ga) ds = (Pl.metFrom (Pl.run n c reb) n.tracks.length (100 - 0) [(fr, ga)] 0).any fun q => q.1 == ds) := by
    show _ = _
    rw [Pl.comes, Pl.reached_from]
  generalize Pl.comes n c reb (fr, ga) ds = RES at HRR
  generalize hRM : Pl.metFrom (Pl.run n c reb) n.tracks.length (100 - 0) [(fr, ga)] 0 = RM at HRR
  have HRM := Lib.hid hRM.symm
  clear hRM hqb hqo hfo hgr hck hq
  have HN := Lib.hid hn
  have HR := Lib.hid hr
  have HX := Lib.hid hx
  obtain ⟨w1, hw1⟩ : ∃ w1, w1 = (w.alloc (.cells #[.int .i64 n.stops, .slice n_tA n.tracks.length n_tc, .slice n_sA n.shops.length n_sc] 27)).alloc (.cells #[.slice c_gA c.gauges.length c_gc, .int .i64 c.size, .int .i64 c.load, .slice c_bA c.brakes.length c_bc, .slice c_hA c.heats.length c_hc, .bool c.hooks] 30) := ⟨_, rfl⟩
  have hb1 : Below w.heap.size w w1 := by rw [hw1]; exact ((Below.refl _ _).alloc (Nat.le_refl _) _).alloc (by simp) _
  have hm0 : w1.heap[w.heap.size]? = some (.cells #[.int .i64 n.stops, .slice n_tA n.tracks.length n_tc, .slice n_sA n.shops.length n_sc] 27 (0, 0)) := by rw [hw1]; exact blk_alloc (heap_alloc_new w _) _
  have hm1 : w1.heap[w.heap.size + 1]? = some (.cells #[.slice c_gA c.gauges.length c_gc, .int .i64 c.size, .int .i64 c.load, .slice c_bA c.brakes.length c_bc, .slice c_hA c.heats.length c_hc, .bool c.hooks] 30 (0, 0)) := by
    rw [hw1]
    have := heap_alloc_new (w.alloc (.cells #[.int .i64 n.stops, .slice n_tA n.tracks.length n_tc, .slice n_sA n.shops.length n_sc] 27)) (.cells #[.slice c_gA c.gauges.length c_gc, .int .i64 c.size, .int .i64 c.load, .slice c_bA c.brakes.length c_bc, .slice c_hA c.heats.length c_hc, .bool c.hooks] 30)
    simpa using this
  have hs1 : w1.heap.size = w.heap.size + 1 + 1 := by rw [hw1]; simp
  have hst0 : StSt w1 ((w1.alloc (.cells #[.int .i64 fr] 3)).alloc (.cells #[.int .i64 ga] 3)) (w.heap.size + 1 + 1) [fr] [ga] (some ⟨w.heap.size + 1 + 1, 0, none⟩) 1 (some ⟨w.heap.size + 1 + 1 + 1, 0, none⟩) 1 := by
    have h2 := own_weaken (base := w1.heap.size) (own_one (w1.alloc (.cells #[.int .i64 fr] 3)) ga) (by simp)
    have h1 := own_alloc (own_one w1 fr) (.cells #[.int .i64 ga] 3)
    simp only [World.size_alloc] at h2
    rw [hs1] at h1 h2
    have h3 := ((Below.refl w1.heap.size w1).alloc (Nat.le_refl _) (.cells #[.int .i64 fr] 3)).alloc (by simp) (.cells #[.int .i64 ga] 3)
    rw [hs1] at h3
    exact ⟨h1, h2, fun p q hp hq => by cases hp; cases hq; simp, h3, by simp; omega⟩
  have HST := Lib.hid hst0
  have HB1 := Lib.hid hb1
  have HM0 := Lib.hid hm0
  have HM1 := Lib.hid hm1
  have HS1 := Lib.hid hs1
  clear hn hr hx hst0 hb1 hm0 hm1 hs1
  go_enter Try.func23, Try.ntmps23
  go_wp2_with fail
  rw [← hw1]
  clear hw1
  go_loopw [14, 15, 16] (fun sv gv kv wr => ∃ (k : Nat) (met : List Pl.Place) (ss gs : List Int) (SA : Option Addr) (sc : Nat) (GA : Option Addr) (gc : Nat), k ≤ met.length ∧ sv = .slice SA ss.length sc ∧ gv = .slice GA gs.length gc ∧ kv = .int .i64 k ∧ Hid (ss = met.map Prod.fst) ∧ Hid (gs = met.map Prod.snd) ∧ Hid (StSt w1 wr (w.heap.size + 1 + 1) ss gs SA sc GA gc) ∧ Hid (Pl.MetOk (Pl.run n c reb) n.tracks.length (fr, ga) met) ∧ Hid (RM = Pl.metFrom (Pl.run n c reb) n.tracks.length (100 - k) met k)) (fun _ _ kv _ => 30 - (intOf kv).toNat)
  case atStart => exact ⟨0, [(fr, ga)], [fr], [ga], _, _, _, _, by simp, rfl, rfl, rfl, rfl, rfl, HST.out, Pl.MetOk.one _ _ _, HRM.out⟩
  case round =>
    obtain ⟨k, met, ss, gs, SA, sc, GA, gc, hk, rfl, rfl, rfl, hss, hgs, hS, hM, hR⟩ := hrel
    clear HST HRM
    have hsl : ss.length = met.length := by rw [hss.out]; simp
    have hgl : gs.length = met.length := by rw [hgs.out]; simp
    have hm24 : met.length ≤ 24 := Nat.le_trans (hM.out.length places (fun x hx => (HGO.out x hx).2.2)) places_length
    have HSL := Lib.hid hsl
    have HGL := Lib.hid hgl
    by_cases hkl : k < met.length
    · obtain ⟨⟨ps, pg⟩, hp⟩ : ∃ p, met[k] = p := ⟨_, rfl⟩
      have hpm : (ps, pg) ∈ met := hp ▸ List.getElem_mem hkl
      obtain ⟨⟨q0, q1, q2, q3⟩, hpg, _⟩ := HGO.out _ (hM.out.gets _ hpm)
      dsimp only at q0 q1 q2 q3 hpg
      have hki : (k : Int) < (ss.length : Int) := by omega
      have hP0 : Hid (met[k]? = some (ps, pg)) := by show _ = _; rw [List.getElem?_eq_getElem hkl, hp]
      have hRN : RM = Pl.metFrom (Pl.run n c reb) n.tracks.length (99 - k) (Pl.sprd (Pl.run n c reb (ps, pg)) n.tracks.length 0 met) (k + 1) := by
        have h := hR.out
        rw [show 100 - k = (99 - k) + 1 by omega, Pl.metFrom_step hkl, hp] at h
        exact h
      obtain ⟨NXT, hNXT⟩ : ∃ NXT, NXT = Pl.sprd (Pl.run n c reb (ps, pg)) n.tracks.length 0 met := ⟨_, rfl⟩
      rw [← hNXT] at hRN
      have hN0 : Hid (NXT = Pl.sprd (Pl.run n c reb (ps, pg)) (n.tracks.length - 0) 0 met) := hNXT
      have HRN := Lib.hid hRN
      clear hRN hR hp hpm hsl hgl hNXT
      go_wp2_with fail
      go_loopw [14, 15, 17] (fun sv gv iv wr => ∃ (i : Nat) (met1 : List Pl.Place) (ss gs : List Int) (SA : Option Addr) (sc : Nat) (GA : Option Addr) (gc : Nat), i ≤ n.tracks.length ∧ sv = .slice SA ss.length sc ∧ gv = .slice GA gs.length gc ∧ iv = .int .i64 i ∧ Hid (ss = met1.map Prod.fst) ∧ Hid (gs = met1.map Prod.snd) ∧ Hid (StSt w1 wr (w.heap.size + 1 + 1) ss gs SA sc GA gc) ∧ Hid (Pl.MetOk (Pl.run n c reb) n.tracks.length (fr, ga) met1) ∧ Hid (met1[k]? = some (ps, pg)) ∧ Hid (NXT = Pl.sprd (Pl.run n c reb (ps, pg)) (n.tracks.length - i) i met1)) (fun _ _ iv _ => n.tracks.length - (intOf iv).toNat)
      case atStart => exact ⟨0, met, ss, gs, SA, sc, GA, gc, by omega, rfl, rfl, rfl, hss, hgs, hS, hM, hP0, hN0⟩
      case round =>
        clear hss hgs hS hM hP0 hN0 hki HSL HGL hk hkl hm24
        obtain ⟨i, met, ss, gs, SA, sc, GA, gc, hi, rfl, rfl, rfl, hss, hgs, hS, hM, hP, hN⟩ := hrel
        have hsl : ss.length = met.length := by rw [hss.out]; simp
        have hgl : gs.length = met.length := by rw [hgs.out]; simp
        have hm24 : met.length ≤ 24 := Nat.le_trans (hM.out.length places (fun x hx => (HGO.out x hx).2.2)) places_length
        have hkl : k < met.length := (List.getElem?_eq_some_iff.1 hP.out).1
        have HSL := Lib.hid hsl
        have HGL := Lib.hid hgl
        have hz := blk_below HM0.out hS.out.bel (by omega)
        have z1 : wr.cell? ⟨w.heap.size, 1, none⟩ = some (.slice n_tA n.tracks.length n_tc) := blk_cell hz 1
        have hbig := hS.out.big
        by_cases hit : i < n.tracks.length
        · have hii : (i : Int) < (n.tracks.length : Int) := by omega
          obtain ⟨bt, ot, hAt, hbt, hct⟩ := HN.out.tracks i n.tracks[i] (List.getElem?_eq_getElem hit)
          subst hAt
          have hok := HTR.out i hit
          have hgd : n.tracks.getD i default = n.tracks[i] := by simp [List.getD_eq_getElem?_getD, List.getElem?_eq_getElem hit]
          rw [hgd] at hok
          obtain ⟨⟨ta, tb, km, gauge, room, brake, heat, load, ferry⟩, ht⟩ : ∃ t, n.tracks[i] = t := ⟨_, rfl⟩
          rw [ht] at hct hok hgd
          obtain ⟨a0, a1, b0, b1, _, _, _, _, _⟩ := hok
          dsimp only at a0 a1 b0 b1
          have HGD := Lib.hid hgd
          have hBW : Below w.heap.size w wr := HB1.out.trans (hS.out.bel.mono (by omega))
          obtain ⟨c0, c1, c2, c3, c4, c5, c6, c7, c8⟩ := trk_cells (w := wr) (b := bt) (o := ot + i * 9) (fun j v hv => (hBW.cell (p := ⟨bt, ot + i * 9 + j, none⟩) hbt).trans (hct j v hv))
          have hbtr : bt < wr.heap.size := by omega
          obtain ⟨bs, os, hSA, hbs, hcs⟩ := hS.out.s.ints k ps (by rw [hss.out, List.getElem?_map, hP.out]; rfl)
          obtain ⟨bg, og, hGA, hbg, hcg⟩ := hS.out.g.ints k pg (by rw [hgs.out, List.getElem?_map, hP.out]; rfl)
          subst hSA hGA
          have hks : (k : Int) < (ss.length : Int) := by omega
          have hkg : (k : Int) < (gs.length : Int) := by omega
          have hW2 : ∃ W2, W2 = wr.alloc (.cells #[.int .i64 ta, .int .i64 tb, .int .i64 km, .int .i64 gauge, .int .i64 room, .int .i64 brake, .int .i64 heat, .int .i64 load, .bool ferry] 47) := ⟨_, rfl⟩
          obtain ⟨W2, hW2⟩ := hW2
          have hT2 : W2.heap[wr.heap.size]? = some (.cells #[.int .i64 ta, .int .i64 tb, .int .i64 km, .int .i64 gauge, .int .i64 room, .int .i64 brake, .int .i64 heat, .int .i64 load, .bool ferry] 47 (0, 0)) := by rw [hW2]; exact heap_alloc_new wr _
          have hB2 : Below wr.heap.size wr W2 := by rw [hW2]; exact (Below.refl _ _).alloc (Nat.le_refl _) _
          have hlt2 := lt_of_block hT2
          have hKW : ∀ W, Below W2.heap.size W2 W → W.cell? ⟨wr.heap.size, 0, none⟩ = some (.int .i64 ta) ∧ W.cell? ⟨wr.heap.size, 1, none⟩ = some (.int .i64 tb) ∧ W.cell? ⟨wr.heap.size, 3, none⟩ = some (.int .i64 gauge) ∧ W.cell? ⟨bs, os + k, none⟩ = some (.int .i64 ps) ∧ W.cell? ⟨bg, og + k, none⟩ = some (.int .i64 pg) ∧ StSt w1 W (w.heap.size + 1 + 1) ss gs (some ⟨bs, os, none⟩) sc (some ⟨bg, og, none⟩) gc := by
            intro W hW
            have h1 := blk_below hT2 hW hlt2
            have hB3 := hB2.trans (hW.mono hB2.size)
            exact ⟨blk_cell h1 0, blk_cell h1 1, blk_cell h1 3, (hB3.cell (p := ⟨bs, os + k, none⟩) hbs).trans hcs, (hB3.cell (p := ⟨bg, og + k, none⟩) hbg).trans hcg, hS.out.below hB3⟩
          have HKW := Lib.hid hKW
          have HB2 := Lib.hid hB2
          clear hct hgd ht hBW hcs hcg hT2 hB2 hKW hsl hgl hz
          go_upto_region 9 with fail
          rw [← hW2]
          obtain ⟨e0, e1, e3, k1, k2, _⟩ := HKW.out _ (Below.refl _ _)
          clear hW2 c0 c1 c2 c3 c4 c5 c6 c7 c8 z1
          have hbs2 : bs < W2.heap.size := by have := HB2.out.size; omega
          have hbg2 : bg < W2.heap.size := by have := HB2.out.size; omega
          go_cut [19] (fun v wx => v = .bool (decide (ta = ps ∨ tb = ps)) ∧ Hid (Below W2.heap.size W2 wx))
          case first =>
            by_cases h1 : ta = ps
            · have hb : (ta == ps) = true := by rw [beq_iff_eq]; exact h1
              have hd : decide (ta = ps ∨ tb = ps) = true := decide_eq_true (.inl h1)
              have HD := Lib.hid hd
              clear hd h1
              go_quiet (fail)
              go_wp2_with fail
              go_meet
              exact ⟨by rw [HD.out], by show Below _ _ _; exact drewN_below _ _⟩
            · have hb : (ta == ps) = false := by rw [beq_eq_false_iff_ne]; exact h1
              by_cases h2 : tb = ps
              · have hb2 : (tb == ps) = true := by rw [beq_iff_eq]; exact h2
                have hd : decide (ta = ps ∨ tb = ps) = true := decide_eq_true (.inr h2)
                have HD := Lib.hid hd
                clear hd h1 h2
                go_quiet (fail)
                go_wp2_with fail
                go_meet
                exact ⟨by rw [HD.out], by show Below _ _ _; exact drewN_below _ _⟩
              · have hb2 : (tb == ps) = false := by rw [beq_eq_false_iff_ne]; exact h2
                have hd : decide (ta = ps ∨ tb = ps) = false := decide_eq_false (fun h => h.elim h1 h2)
                have HD := Lib.hid hd
                clear hd h1 h2
                go_quiet (fail)
                go_wp2_with fail
                go_meet
                exact ⟨by rw [HD.out], by show Below _ _ _; exact drewN_below _ _⟩
          case rest =>
            obtain ⟨rfl, hWx⟩ := hcut
            clear e0 e1 e3 k1 k2
            obtain ⟨e0, e1, e3, k1, k2, _⟩ := HKW.out _ hWx.out
            have hsW := hWx.out.size
            obtain ⟨E1, hE1⟩ : ∃ E1 : Bool, decide (ta = ps ∨ tb = ps) = E1 := ⟨_, rfl⟩
            have HE1 : Hid (E1 = true ↔ (ta = ps ∨ tb = ps)) := by rw [← hE1]; show _ ↔ _; exact decide_eq_true_iff
            rw [hE1]
            clear hE1
            go_wp2_with fail
            go_quiet (fail)
            generalize hwq : wc.drewN _ = wq
            have hBq : Below W2.heap.size W2 wq := by rw [← hwq]; exact hWx.out.trans ((drewN_below _ _).mono hWx.out.size)
            clear hwq e0 e1 e3 k1 k2 hsW hWx
            obtain ⟨e0, e1, e3, k1, k2, hSq⟩ := HKW.out _ hBq
            have HBQ := Lib.hid hBq
            have Sq := Lib.hid hSq
            have hsW := hBq.size
            have hXq : Ints wq wq.heap.size A reb := (HX.out.below (HB1.out.trans (hSq.bel.mono (by omega)))).more (by have := HB2.out.size; omega)
            have HXq := Lib.hid hXq
            clear hSq hXq hBq
            by_cases hreb : (i : Int) ∈ reb
            · have hix : ¬ idx reb (i : Int) < 0 := by have := (idx_ge reb (i : Int)).2 hreb; omega
              have hrr := Pl.run_reb (n := n) (c := c) (reb := reb) (p := (ps, pg)) (k := i) hreb
              rw [HGD.out] at hrr
              have HE : Hid ((Pl.run n c reb (ps, pg) i).2.2 = 0 ↔ E1 = true) := hrr.1.trans HE1.out.symm
              have HX : Hid (E1 = true → (Pl.run n c reb (ps, pg) i).1 = (ta + tb - ps, pg)) := fun h => hrr.2 (HE.out.2 h)
              clear hreb hrr HE1
              go_wp2_with (go_at_call 29; refine (seat_any A cp reb (i : Int) _ wq HXq.out (by omega)).mono ?_; rintro e w' ⟨rfl, rfl⟩)
              go_loopw [25, 26] (fun mv jv wr => ∃ j : Nat, j ≤ ss.length ∧ mv = .bool (memTo met (ta + tb - ps, pg) j) ∧ jv = .int .i64 j ∧ wq = wr) (fun _ jv _ => ss.length - (intOf jv).toNat)
              case atStart => exact ⟨0, by omega, by simp [memTo], rfl, by first | rfl | trivial⟩
              case round =>
                obtain ⟨j, hj, rfl, rfl, rfl⟩ := hrel
                by_cases hjl : j < ss.length
                · have hjm : j < met.length := by have := HSL.out; omega
                  have hstep := memTo_step (x := (ta + tb - ps, pg)) hjm
                  obtain ⟨⟨mx, my⟩, hmj⟩ : ∃ m, met[j] = m := ⟨_, rfl⟩
                  rw [hmj] at hstep
                  have hm? : met[j]? = some (mx, my) := by rw [List.getElem?_eq_getElem hjm, hmj]
                  obtain ⟨b1, o1, hA1, _, hc1⟩ := Sq.out.s.ints j mx (by rw [hss.out, List.getElem?_map, hm?]; rfl)
                  obtain ⟨b2, o2, hA2, _, hc2⟩ := Sq.out.g.ints j my (by rw [hgs.out, List.getElem?_map, hm?]; rfl)
                  injection hA1 with hA1
                  injection hA1 with f1 f2 _
                  subst f1 f2
                  injection hA2 with hA2
                  injection hA2 with f1 f2 _
                  subst f1 f2
                  have hji : (j : Int) < (ss.length : Int) := by omega
                  have hjg : (j : Int) < (gs.length : Int) := by have := HSL.out; have := HGL.out; omega
                  cases hmt : memTo met (ta + tb - ps, pg) j
                  · rw [hmt, Bool.false_or] at hstep
                    by_cases g1 : mx = ta + tb - ps
                    · have hb1 : (mx == ta + tb - ps) = true := by rw [beq_iff_eq]; exact g1
                      by_cases g2 : my = pg
                      · have hb2 : (my == pg) = true := by rw [beq_iff_eq]; exact g2
                        have hnx : memTo met (ta + tb - ps, pg) (j + 1) = true := by rw [hstep, g1, g2]; simp
                        have HNX := Lib.hid hnx
                        clear hstep hmt hm? hmj g1 g2 hnx
                        go_wp2_with fail
                        go_roundw
                        case rel => exact ⟨j + 1, by omega, by rw [HNX.out], by go_num, by first | rfl | trivial⟩
                        case measure => simp [intOf]; omega
                      · have hb2 : (my == pg) = false := by rw [beq_eq_false_iff_ne]; exact g2
                        have hnx : memTo met (ta + tb - ps, pg) (j + 1) = false := by rw [hstep]; simp [g2]
                        have HNX := Lib.hid hnx
                        clear hstep hmt hm? hmj g1 g2 hnx
                        go_wp2_with fail
                        go_roundw
                        case rel => exact ⟨j + 1, by omega, by rw [HNX.out], by go_num, by first | rfl | trivial⟩
                        case measure => simp [intOf]; omega
                    · have hb1 : (mx == ta + tb - ps) = false := by rw [beq_eq_false_iff_ne]; exact g1
                      have hnx : memTo met (ta + tb - ps, pg) (j + 1) = false := by rw [hstep]; simp [g1]
                      have HNX := Lib.hid hnx
                      clear hstep hmt hm? hmj g1 hnx
                      go_wp2_with fail
                      go_roundw
                      case rel => exact ⟨j + 1, by omega, by rw [HNX.out], by go_num, by first | rfl | trivial⟩
                      case measure => simp [intOf]; omega
                  · rw [hmt, Bool.true_or] at hstep
                    have HNX := Lib.hid hstep
                    clear hstep hmt hm? hmj
                    go_wp2_with fail
                    go_roundw
                    case rel => exact ⟨j + 1, by omega, by rw [HNX.out], by go_num, by first | rfl | trivial⟩
                    case measure => simp [intOf]; omega
                · have hma := memTo_all (met := met) (x := (ta + tb - ps, pg)) (j := j) (by have := HSL.out; omega)
                  have hnj : ¬ (j : Int) < (ss.length : Int) := by omega
                  rw [hma]
                  clear hma
                  cases E1
                  · have hmv : decide ((ta + tb - ps, pg) ∈ met) = decide ((ta + tb - ps, pg) ∈ met) := rfl
                    have hN2 : Hid (NXT = Pl.sprd (Pl.run n c reb (ps, pg)) (n.tracks.length - (i + 1)) (i + 1) met) := by
                      show _ = _
                      rw [hN.out, show n.tracks.length - i = (n.tracks.length - (i + 1)) + 1 by omega]
                      exact Pl.sprd_on (.inl fun h => by have := HE.out.1 h; cases this)
                    clear hmv HE HX hN
                    go_wp2_with fail
                    go_roundw
                    case rel => exact ⟨i + 1, met, ss, gs, _, sc, _, gc, by omega, rfl, rfl, by go_num, hss, hgs, Sq, hM, hP, hN2⟩
                    case measure => simp [intOf]; omega
                  · have hX := HX.out (by first | rfl | trivial)
                    have hZ := HE.out.2 (by first | rfl | trivial)
                    by_cases hmem : (ta + tb - ps, pg) ∈ met
                    · have hmd : decide ((ta + tb - ps, pg) ∈ met) = true := decide_eq_true hmem
                      rw [hmd]
                      have hN2 : Hid (NXT = Pl.sprd (Pl.run n c reb (ps, pg)) (n.tracks.length - (i + 1)) (i + 1) met) := by
                        show _ = _
                        rw [hN.out, show n.tracks.length - i = (n.tracks.length - (i + 1)) + 1 by omega]
                        exact Pl.sprd_on (.inr (by rw [hX]; exact hmem))
                      clear HE HX hN hX hZ hmem hmd
                      go_wp2_with fail
                      go_roundw
                      case rel => exact ⟨i + 1, met, ss, gs, _, sc, _, gc, by omega, rfl, rfl, by go_num, hss, hgs, Sq, hM, hP, hN2⟩
                      case measure => simp [intOf]; omega
                    · have hmd : decide ((ta + tb - ps, pg) ∈ met) = false := decide_eq_false hmem
                      rw [hmd]
                      have hN2 : Hid (NXT = Pl.sprd (Pl.run n c reb (ps, pg)) (n.tracks.length - (i + 1)) (i + 1) (met ++ [(ta + tb - ps, pg)])) := by
                        show _ = _
                        rw [hN.out, show n.tracks.length - i = (n.tracks.length - (i + 1)) + 1 by omega, Pl.sprd_in (by rw [hX, hZ]; simp [hmem]), hX]
                      have hM2 : Hid (Pl.MetOk (Pl.run n c reb) n.tracks.length (fr, ga) (met ++ [(ta + tb - ps, pg)])) := by
                        have := hM.out.more (List.mem_of_getElem? hP.out) hit hZ (by rw [hX]; exact hmem)
                        rw [hX] at this
                        exact this
                      have hss2 : Hid (ss ++ [ta + tb - ps] = (met ++ [(ta + tb - ps, pg)]).map Prod.fst) := by show _ = _; rw [hss.out, List.map_append]; rfl
                      have hgs2 : Hid (gs ++ [pg] = (met ++ [(ta + tb - ps, pg)]).map Prod.snd) := by show _ = _; rw [hgs.out, List.map_append]; rfl
                      have hP2 : Hid ((met ++ [(ta + tb - ps, pg)])[k]? = some (ps, pg)) := by show _ = _; rw [List.getElem?_append_left hkl]; exact hP.out
                      have hbq := Sq.out.big
                      clear HE HX hN hX hZ hmem hmd
                      go_wp2_with (at_builtin; first
                        | (refine wpl_app_ints rfl (.tmp 142) (.tmp 144) 22 rfl (w.heap.size + 1 + 1) Try.underlying22 int_info (some ⟨bs, os, none⟩) sc ss rfl (own_alloc Sq.out.s _) (wq.heap.size + 1) (some ⟨wq.heap.size, 0, none⟩) 1 [ta + tb - ps] rfl (ints_one _ _ _ (by simp) (by omega)) (by have := HSL.out; simp; omega) (by simp; omega) ?_; intro A5 c5 v1 ho5 hg5 ha5; have T1 := Lib.hid ((Sq.out.alloc (.cells #[.int .i64 (ta + tb - ps)] 3)).pushS ho5 hg5 ha5); have ht1 := T1.out.big; clear ho5 hg5 ha5)
                        | (refine wpl_app_ints rfl (.tmp 146) (.tmp 148) 22 rfl (w.heap.size + 1 + 1) Try.underlying22 int_info (some ⟨bg, og, none⟩) gc gs rfl (own_alloc T1.out.g _) (v1.heap.size + 1) (some ⟨v1.heap.size, 0, none⟩) 1 [pg] rfl (ints_one _ _ _ (by simp) (by omega)) (by have := HGL.out; simp; omega) (by simp; omega) ?_; intro A6 c6 v2 ho6 hg6 ha6; have T2 := Lib.hid ((T1.out.alloc (.cells #[.int .i64 pg] 3)).pushG ho6 hg6 ha6); clear ho6 hg6 ha6))
                      go_roundw
                      case rel => exact ⟨i + 1, _, _, _, A5, c5, A6, c6, by omega, by simp, by simp, by go_num, hss2, hgs2, T2, hM2, hP2, hN2⟩
                      case measure => simp [intOf]; omega
            · have hix : idx reb (i : Int) < 0 := (idx_lt reb (i : Int)).2 hreb
              have hrn := Pl.run_not (n := n) (c := c) (reb := reb) (p := (ps, pg)) (k := i) hreb
              have HRN3 := Lib.hid hrn
              clear hreb hrn
              have hAL := Pl.along_one n c (ps, pg) i
              have hpr : Pl.printed n c ps pg [(i : Int)] = 0 := by
                have hb : Pl.both n c = 0 := by simp [Pl.both, HCK.out.1, HCK.out.2]
                have ho : Pl.out ps 0 (n.stops - 1) = false := by simp [Pl.out]; omega
                have hqn : Pl.question n c ps pg = 0 := by simp [Pl.question, hb, ho, hpg]
                have hu : Pl.unknownIn n.tracks.length [(i : Int)] = false := by simp [Pl.unknownIn, Pl.out]; omega
                simp [Pl.printed, hqn, hu]
              obtain ⟨AT, BB, hFV, hAT⟩ : ∃ AT BB : Int, firstVal n c ps pg [(i : Int)] = .tuple #[.int .i64 AT, .int .i64 BB, .int .i64 0] ∧ AT = if (Pl.run n c [] (ps, pg) i).2.2 = 0 then -1 else 0 := ⟨_, _, by rw [firstVal, if_pos hpr], hAL⟩
              have HFV := Lib.hid hFV
              have hKN : ∀ W, Below wq.heap.size wq W → (W.cell? ⟨w.heap.size, 0, none⟩ = some (.int .i64 n.stops) ∧ W.cell? ⟨w.heap.size, 1, none⟩ = some (.slice (some ⟨bt, ot, none⟩) n.tracks.length n_tc) ∧ W.cell? ⟨w.heap.size, 2, none⟩ = some (.slice n_sA n.shops.length n_sc)) ∧ (W.cell? ⟨w.heap.size + 1, 0, none⟩ = some (.slice c_gA c.gauges.length c_gc) ∧ W.cell? ⟨w.heap.size + 1, 1, none⟩ = some (.int .i64 c.size) ∧ W.cell? ⟨w.heap.size + 1, 2, none⟩ = some (.int .i64 c.load) ∧ W.cell? ⟨w.heap.size + 1, 3, none⟩ = some (.slice c_bA c.brakes.length c_bc) ∧ W.cell? ⟨w.heap.size + 1, 4, none⟩ = some (.slice c_hA c.heats.length c_hc) ∧ W.cell? ⟨w.heap.size + 1, 5, none⟩ = some (.bool c.hooks)) ∧ W.cell? ⟨bs, os + k, none⟩ = some (.int .i64 ps) ∧ W.cell? ⟨bg, og + k, none⟩ = some (.int .i64 pg) := by
                intro W hW
                have hB3 := Sq.out.bel.trans (hW.mono Sq.out.big)
                have h0 := blk_below HM0.out hB3 (by omega)
                have h1 := blk_below HM1.out hB3 (by omega)
                have h2 := HKW.out _ (HBQ.out.trans (hW.mono hsW))
                exact ⟨⟨blk_cell h0 0, blk_cell h0 1, blk_cell h0 2⟩, ⟨blk_cell h1 0, blk_cell h1 1, blk_cell h1 2, blk_cell h1 3, blk_cell h1 4, blk_cell h1 5⟩, h2.2.2.2.1, h2.2.2.2.2.1⟩
              have HKN := Lib.hid hKN
              have hbA : Below wq.heap.size wq (wq.alloc (.cells #[.int .i64 (i : Int)] 3)).drew := ((Below.refl _ _).alloc (Nat.le_refl _) _).drew
              have HBA := Lib.hid hbA
              have hBWq : Below w.heap.size w (wq.alloc (.cells #[.int .i64 (i : Int)] 3)).drew := (HB1.out.trans (Sq.out.bel.mono (by omega))).trans (hbA.mono (by have := HB2.out.size; omega))
              have hone : Ints (wq.alloc (.cells #[.int .i64 (i : Int)] 3)).drew (wq.alloc (.cells #[.int .i64 (i : Int)] 3)).drew.heap.size (some ⟨wq.heap.size, 0, none⟩) [(i : Int)] := (own_one wq (i : Int)).ints
              have hcall := first_any n (some ⟨bt, ot, none⟩) n_sA n_tc n_sc c c_gA c_bA c_hA c_gc c_bc c_hc ps pg (some ⟨wq.heap.size, 0, none⟩) 1 [(i : Int)] (wq.alloc (.cells #[.int .i64 (i : Int)] 3)).drew ((HN.out.below hBWq).more hBWq.size) ((HR.out.below hBWq).more hBWq.size) hone (by simp)
              have HCALL := Lib.hid hcall
              obtain ⟨⟨n0, n1, n2⟩, ⟨m0, m1, m2, m3, m4, m5⟩, _, _⟩ := hKN _ (Below.refl _ _)
              have hwn : w.heap.size < wq.heap.size := by have := HB2.out.size; omega
              have hwm : w.heap.size + 1 < wq.heap.size := by have := HB2.out.size; omega
              clear hKN hbA hBWq hone hcall hpr hAL hFV
              by_cases hz : (Pl.run n c [] (ps, pg) i).2.2 = 0
              · rw [if_pos hz] at hAT
                subst hAT
                have hen := (Pl.run_fine hz).2.1
                rw [HGD.out] at hen
                obtain rfl : E1 = true := HE1.out.2 (hen.elim (fun h => .inl h.symm) (fun h => .inr h.symm))
                have hop := Pl.run_open hz
                rw [HGD.out] at hop
                have HE : Hid ((Pl.run n c reb (ps, pg) i).2.2 = 0 ↔ true = true) := ⟨fun _ => rfl, fun _ => by rw [HRN3.out]; exact hz⟩
                have HX : Hid (true = true → (Pl.run n c reb (ps, pg) i).1 = (ta + tb - ps, gauge)) := fun _ => by rw [HRN3.out]; exact hop
                clear hz hen hop HE1
                go_wp2_with (go_at_call 29; refine (seat_any A cp reb (i : Int) _ wq HXq.out (by omega)).mono ?_; rintro e w' ⟨rfl, rfl⟩)
                go_region_held3 (fun W => (W.cell? ⟨w.heap.size, 0, none⟩ = some (.int .i64 n.stops) ∧ W.cell? ⟨w.heap.size, 1, none⟩ = some (.slice (some ⟨bt, ot, none⟩) n.tracks.length n_tc) ∧ W.cell? ⟨w.heap.size, 2, none⟩ = some (.slice n_sA n.shops.length n_sc)) ∧ (W.cell? ⟨w.heap.size + 1, 0, none⟩ = some (.slice c_gA c.gauges.length c_gc) ∧ W.cell? ⟨w.heap.size + 1, 1, none⟩ = some (.int .i64 c.size) ∧ W.cell? ⟨w.heap.size + 1, 2, none⟩ = some (.int .i64 c.load) ∧ W.cell? ⟨w.heap.size + 1, 3, none⟩ = some (.slice c_bA c.brakes.length c_bc) ∧ W.cell? ⟨w.heap.size + 1, 4, none⟩ = some (.slice c_hA c.heats.length c_hc) ∧ W.cell? ⟨w.heap.size + 1, 5, none⟩ = some (.bool c.hooks)) ∧ W.cell? ⟨bs, os + k, none⟩ = some (.int .i64 ps) ∧ W.cell? ⟨bg, og + k, none⟩ = some (.int .i64 pg))
                  (first | go_keep | exact hS3 | exact HKN.out _ HBA.out)
                  (first
                    | (go_at_call 32; refine HCALL.out.mono ?_; rintro e wf ⟨rfl, hbf⟩; rw [HFV.out]; have HBF := Lib.hid (HBA.out.trans (hbf.mono HBA.out.size)); have hS3 := HKN.out _ HBF.out; clear hbf))
                clear hS3 n0 n1 n2 m0 m1 m2 m3 m4 m5 e0 e1 e3 k1 k2
                have hBq := HBQ.out.trans (HBF.out.mono hsW)
                obtain ⟨e0, e1, e3, k1, k2, _⟩ := HKW.out _ hBq
                have hXf : wr.heap.size < wf.heap.size := by have := hBq.size; omega
                go_wp2_with fail
                go_quiet (fail)
                generalize hwq : wf.drewN _ = wq
                have hBq2 : Below W2.heap.size W2 wq := by rw [← hwq]; exact hBq.trans ((drewN_below _ _).mono hBq.size)
                clear hwq e0 e1 e3 k1 k2 hsW Sq HXq HBF
                obtain ⟨e0, e1, e3, k1, k2, hSq⟩ := HKW.out _ hBq2
                have Sq := Lib.hid hSq
                have hsW := hBq2.size
                clear hSq
                go_wp2_with fail
                go_loopw [25, 26] (fun mv jv wr => ∃ j : Nat, j ≤ ss.length ∧ mv = .bool (memTo met (ta + tb - ps, gauge) j) ∧ jv = .int .i64 j ∧ wq = wr) (fun _ jv _ => ss.length - (intOf jv).toNat)
                case atStart => exact ⟨0, by omega, by simp [memTo], rfl, by first | rfl | trivial⟩
                case round =>
                  obtain ⟨j, hj, rfl, rfl, rfl⟩ := hrel
                  by_cases hjl : j < ss.length
                  · have hjm : j < met.length := by have := HSL.out; omega
                    have hstep := memTo_step (x := (ta + tb - ps, gauge)) hjm
                    obtain ⟨⟨mx, my⟩, hmj⟩ : ∃ m, met[j] = m := ⟨_, rfl⟩
                    rw [hmj] at hstep
                    have hm? : met[j]? = some (mx, my) := by rw [List.getElem?_eq_getElem hjm, hmj]
                    obtain ⟨b1, o1, hA1, _, hc1⟩ := Sq.out.s.ints j mx (by rw [hss.out, List.getElem?_map, hm?]; rfl)
                    obtain ⟨b2, o2, hA2, _, hc2⟩ := Sq.out.g.ints j my (by rw [hgs.out, List.getElem?_map, hm?]; rfl)
                    injection hA1 with hA1
                    injection hA1 with f1 f2 _
                    subst f1 f2
                    injection hA2 with hA2
                    injection hA2 with f1 f2 _
                    subst f1 f2
                    have hji : (j : Int) < (ss.length : Int) := by omega
                    have hjg : (j : Int) < (gs.length : Int) := by have := HSL.out; have := HGL.out; omega
                    cases hmt : memTo met (ta + tb - ps, gauge) j
                    · rw [hmt, Bool.false_or] at hstep
                      by_cases g1 : mx = ta + tb - ps
                      · have hb1 : (mx == ta + tb - ps) = true := by rw [beq_iff_eq]; exact g1
                        by_cases g2 : my = gauge
                        · have hb2 : (my == gauge) = true := by rw [beq_iff_eq]; exact g2
                          have hnx : memTo met (ta + tb - ps, gauge) (j + 1) = true := by rw [hstep, g1, g2]; simp
                          have HNX := Lib.hid hnx
                          clear hstep hmt hm? hmj g1 g2 hnx
                          go_wp2_with fail
                          go_roundw
                          case rel => exact ⟨j + 1, by omega, by rw [HNX.out], by go_num, by first | rfl | trivial⟩
                          case measure => simp [intOf]; omega
                        · have hb2 : (my == gauge) = false := by rw [beq_eq_false_iff_ne]; exact g2
                          have hnx : memTo met (ta + tb - ps, gauge) (j + 1) = false := by rw [hstep]; simp [g2]
                          have HNX := Lib.hid hnx
                          clear hstep hmt hm? hmj g1 g2 hnx
                          go_wp2_with fail
                          go_roundw
                          case rel => exact ⟨j + 1, by omega, by rw [HNX.out], by go_num, by first | rfl | trivial⟩
                          case measure => simp [intOf]; omega
                      · have hb1 : (mx == ta + tb - ps) = false := by rw [beq_eq_false_iff_ne]; exact g1
                        have hnx : memTo met (ta + tb - ps, gauge) (j + 1) = false := by rw [hstep]; simp [g1]
                        have HNX := Lib.hid hnx
                        clear hstep hmt hm? hmj g1 hnx
                        go_wp2_with fail
                        go_roundw
                        case rel => exact ⟨j + 1, by omega, by rw [HNX.out], by go_num, by first | rfl | trivial⟩
                        case measure => simp [intOf]; omega
                    · rw [hmt, Bool.true_or] at hstep
                      have HNX := Lib.hid hstep
                      clear hstep hmt hm? hmj
                      go_wp2_with fail
                      go_roundw
                      case rel => exact ⟨j + 1, by omega, by rw [HNX.out], by go_num, by first | rfl | trivial⟩
                      case measure => simp [intOf]; omega
                  · have hma := memTo_all (met := met) (x := (ta + tb - ps, gauge)) (j := j) (by have := HSL.out; omega)
                    have hnj : ¬ (j : Int) < (ss.length : Int) := by omega
                    rw [hma]
                    clear hma
                    have hX := HX.out (by first | rfl | trivial)
                    have hZ := HE.out.2 (by first | rfl | trivial)
                    by_cases hmem : (ta + tb - ps, gauge) ∈ met
                    · have hmd : decide ((ta + tb - ps, gauge) ∈ met) = true := decide_eq_true hmem
                      rw [hmd]
                      have hN2 : Hid (NXT = Pl.sprd (Pl.run n c reb (ps, pg)) (n.tracks.length - (i + 1)) (i + 1) met) := by
                        show _ = _
                        rw [hN.out, show n.tracks.length - i = (n.tracks.length - (i + 1)) + 1 by omega]
                        exact Pl.sprd_on (.inr (by rw [hX]; exact hmem))
                      clear HE HX hN hX hZ hmem hmd
                      go_wp2_with fail
                      go_roundw
                      case rel => exact ⟨i + 1, met, ss, gs, _, sc, _, gc, by omega, rfl, rfl, by go_num, hss, hgs, Sq, hM, hP, hN2⟩
                      case measure => simp [intOf]; omega
                    · have hmd : decide ((ta + tb - ps, gauge) ∈ met) = false := decide_eq_false hmem
                      rw [hmd]
                      have hN2 : Hid (NXT = Pl.sprd (Pl.run n c reb (ps, pg)) (n.tracks.length - (i + 1)) (i + 1) (met ++ [(ta + tb - ps, gauge)])) := by
                        show _ = _
                        rw [hN.out, show n.tracks.length - i = (n.tracks.length - (i + 1)) + 1 by omega, Pl.sprd_in (by rw [hX, hZ]; simp [hmem]), hX]
                      have hM2 : Hid (Pl.MetOk (Pl.run n c reb) n.tracks.length (fr, ga) (met ++ [(ta + tb - ps, gauge)])) := by
                        have := hM.out.more (List.mem_of_getElem? hP.out) hit hZ (by rw [hX]; exact hmem)
                        rw [hX] at this
                        exact this
                      have hss2 : Hid (ss ++ [ta + tb - ps] = (met ++ [(ta + tb - ps, gauge)]).map Prod.fst) := by show _ = _; rw [hss.out, List.map_append]; rfl
                      have hgs2 : Hid (gs ++ [gauge] = (met ++ [(ta + tb - ps, gauge)]).map Prod.snd) := by show _ = _; rw [hgs.out, List.map_append]; rfl
                      have hP2 : Hid ((met ++ [(ta + tb - ps, gauge)])[k]? = some (ps, pg)) := by show _ = _; rw [List.getElem?_append_left hkl]; exact hP.out
                      have hbq := Sq.out.big
                      clear HE HX hN hX hZ hmem hmd
                      go_wp2_with (at_builtin; first
                        | (refine wpl_app_ints rfl (.tmp 142) (.tmp 144) 22 rfl (w.heap.size + 1 + 1) Try.underlying22 int_info (some ⟨bs, os, none⟩) sc ss rfl (own_alloc Sq.out.s _) (wq.heap.size + 1) (some ⟨wq.heap.size, 0, none⟩) 1 [ta + tb - ps] rfl (ints_one _ _ _ (by simp) (by omega)) (by have := HSL.out; simp; omega) (by simp; omega) ?_; intro A5 c5 v1 ho5 hg5 ha5; have T1 := Lib.hid ((Sq.out.alloc (.cells #[.int .i64 (ta + tb - ps)] 3)).pushS ho5 hg5 ha5); have ht1 := T1.out.big; clear ho5 hg5 ha5)
                        | (refine wpl_app_ints rfl (.tmp 146) (.tmp 148) 22 rfl (w.heap.size + 1 + 1) Try.underlying22 int_info (some ⟨bg, og, none⟩) gc gs rfl (own_alloc T1.out.g _) (v1.heap.size + 1) (some ⟨v1.heap.size, 0, none⟩) 1 [gauge] rfl (ints_one _ _ _ (by simp) (by omega)) (by have := HGL.out; simp; omega) (by simp; omega) ?_; intro A6 c6 v2 ho6 hg6 ha6; have T2 := Lib.hid ((T1.out.alloc (.cells #[.int .i64 gauge] 3)).pushG ho6 hg6 ha6); clear ho6 hg6 ha6))
                      go_roundw
                      case rel => exact ⟨i + 1, _, _, _, A5, c5, A6, c6, by omega, by simp, by simp, by go_num, hss2, hgs2, T2, hM2, hP2, hN2⟩
                      case measure => simp [intOf]; omega
              · rw [if_neg hz] at hAT
                subst hAT
                have HE : Hid ((Pl.run n c reb (ps, pg) i).2.2 = 0 ↔ false = true) := ⟨fun h => absurd (by rw [← HRN3.out]; exact h) hz, fun h => by cases h⟩
                have HX : Hid (false = true → (Pl.run n c reb (ps, pg) i).1 = (ta + tb - ps, gauge)) := fun h => by cases h
                clear hz HE1
                go_wp2_with (go_at_call 29; refine (seat_any A cp reb (i : Int) _ wq HXq.out (by omega)).mono ?_; rintro e w' ⟨rfl, rfl⟩)
                go_region_held3 (fun W => (W.cell? ⟨w.heap.size, 0, none⟩ = some (.int .i64 n.stops) ∧ W.cell? ⟨w.heap.size, 1, none⟩ = some (.slice (some ⟨bt, ot, none⟩) n.tracks.length n_tc) ∧ W.cell? ⟨w.heap.size, 2, none⟩ = some (.slice n_sA n.shops.length n_sc)) ∧ (W.cell? ⟨w.heap.size + 1, 0, none⟩ = some (.slice c_gA c.gauges.length c_gc) ∧ W.cell? ⟨w.heap.size + 1, 1, none⟩ = some (.int .i64 c.size) ∧ W.cell? ⟨w.heap.size + 1, 2, none⟩ = some (.int .i64 c.load) ∧ W.cell? ⟨w.heap.size + 1, 3, none⟩ = some (.slice c_bA c.brakes.length c_bc) ∧ W.cell? ⟨w.heap.size + 1, 4, none⟩ = some (.slice c_hA c.heats.length c_hc) ∧ W.cell? ⟨w.heap.size + 1, 5, none⟩ = some (.bool c.hooks)) ∧ W.cell? ⟨bs, os + k, none⟩ = some (.int .i64 ps) ∧ W.cell? ⟨bg, og + k, none⟩ = some (.int .i64 pg))
                  (first | go_keep | exact hS3 | exact HKN.out _ HBA.out)
                  (first
                    | (go_at_call 32; refine HCALL.out.mono ?_; rintro e wf ⟨rfl, hbf⟩; rw [HFV.out]; have HBF := Lib.hid (HBA.out.trans (hbf.mono HBA.out.size)); have hS3 := HKN.out _ HBF.out; clear hbf))
                clear hS3 n0 n1 n2 m0 m1 m2 m3 m4 m5 e0 e1 e3 k1 k2
                have hBq := HBQ.out.trans (HBF.out.mono hsW)
                obtain ⟨e0, e1, e3, k1, k2, _⟩ := HKW.out _ hBq
                have hXf : wr.heap.size < wf.heap.size := by have := hBq.size; omega
                go_wp2_with fail
                go_quiet (fail)
                generalize hwq : wf.drewN _ = wq
                have hBq2 : Below W2.heap.size W2 wq := by rw [← hwq]; exact hBq.trans ((drewN_below _ _).mono hBq.size)
                clear hwq e0 e1 e3 k1 k2 hsW Sq HXq HBF
                obtain ⟨e0, e1, e3, k1, k2, hSq⟩ := HKW.out _ hBq2
                have Sq := Lib.hid hSq
                have hsW := hBq2.size
                clear hSq
                go_wp2_with fail
                go_loopw [25, 26] (fun mv jv wr => ∃ j : Nat, j ≤ ss.length ∧ mv = .bool (memTo met (ta + tb - ps, gauge) j) ∧ jv = .int .i64 j ∧ wq = wr) (fun _ jv _ => ss.length - (intOf jv).toNat)
                case atStart => exact ⟨0, by omega, by simp [memTo], rfl, by first | rfl | trivial⟩
                case round =>
                  obtain ⟨j, hj, rfl, rfl, rfl⟩ := hrel
                  by_cases hjl : j < ss.length
                  · have hjm : j < met.length := by have := HSL.out; omega
                    have hstep := memTo_step (x := (ta + tb - ps, gauge)) hjm
                    obtain ⟨⟨mx, my⟩, hmj⟩ : ∃ m, met[j] = m := ⟨_, rfl⟩
                    rw [hmj] at hstep
                    have hm? : met[j]? = some (mx, my) := by rw [List.getElem?_eq_getElem hjm, hmj]
                    obtain ⟨b1, o1, hA1, _, hc1⟩ := Sq.out.s.ints j mx (by rw [hss.out, List.getElem?_map, hm?]; rfl)
                    obtain ⟨b2, o2, hA2, _, hc2⟩ := Sq.out.g.ints j my (by rw [hgs.out, List.getElem?_map, hm?]; rfl)
                    injection hA1 with hA1
                    injection hA1 with f1 f2 _
                    subst f1 f2
                    injection hA2 with hA2
                    injection hA2 with f1 f2 _
                    subst f1 f2
                    have hji : (j : Int) < (ss.length : Int) := by omega
                    have hjg : (j : Int) < (gs.length : Int) := by have := HSL.out; have := HGL.out; omega
                    cases hmt : memTo met (ta + tb - ps, gauge) j
                    · rw [hmt, Bool.false_or] at hstep
                      by_cases g1 : mx = ta + tb - ps
                      · have hb1 : (mx == ta + tb - ps) = true := by rw [beq_iff_eq]; exact g1
                        by_cases g2 : my = gauge
                        · have hb2 : (my == gauge) = true := by rw [beq_iff_eq]; exact g2
                          have hnx : memTo met (ta + tb - ps, gauge) (j + 1) = true := by rw [hstep, g1, g2]; simp
                          have HNX := Lib.hid hnx
                          clear hstep hmt hm? hmj g1 g2 hnx
                          go_wp2_with fail
                          go_roundw
                          case rel => exact ⟨j + 1, by omega, by rw [HNX.out], by go_num, by first | rfl | trivial⟩
                          case measure => simp [intOf]; omega
                        · have hb2 : (my == gauge) = false := by rw [beq_eq_false_iff_ne]; exact g2
                          have hnx : memTo met (ta + tb - ps, gauge) (j + 1) = false := by rw [hstep]; simp [g2]
                          have HNX := Lib.hid hnx
                          clear hstep hmt hm? hmj g1 g2 hnx
                          go_wp2_with fail
                          go_roundw
                          case rel => exact ⟨j + 1, by omega, by rw [HNX.out], by go_num, by first | rfl | trivial⟩
                          case measure => simp [intOf]; omega
                      · have hb1 : (mx == ta + tb - ps) = false := by rw [beq_eq_false_iff_ne]; exact g1
                        have hnx : memTo met (ta + tb - ps, gauge) (j + 1) = false := by rw [hstep]; simp [g1]
                        have HNX := Lib.hid hnx
                        clear hstep hmt hm? hmj g1 hnx
                        go_wp2_with fail
                        go_roundw
                        case rel => exact ⟨j + 1, by omega, by rw [HNX.out], by go_num, by first | rfl | trivial⟩
                        case measure => simp [intOf]; omega
                    · rw [hmt, Bool.true_or] at hstep
                      have HNX := Lib.hid hstep
                      clear hstep hmt hm? hmj
                      go_wp2_with fail
                      go_roundw
                      case rel => exact ⟨j + 1, by omega, by rw [HNX.out], by go_num, by first | rfl | trivial⟩
                      case measure => simp [intOf]; omega
                  · have hma := memTo_all (met := met) (x := (ta + tb - ps, gauge)) (j := j) (by have := HSL.out; omega)
                    have hnj : ¬ (j : Int) < (ss.length : Int) := by omega
                    rw [hma]
                    clear hma
                    have hmv : decide ((ta + tb - ps, gauge) ∈ met) = decide ((ta + tb - ps, gauge) ∈ met) := rfl
                    have hN2 : Hid (NXT = Pl.sprd (Pl.run n c reb (ps, pg)) (n.tracks.length - (i + 1)) (i + 1) met) := by
                      show _ = _
                      rw [hN.out, show n.tracks.length - i = (n.tracks.length - (i + 1)) + 1 by omega]
                      exact Pl.sprd_on (.inl fun h => by have := HE.out.1 h; cases this)
                    clear hmv HE HX hN
                    go_wp2_with fail
                    go_roundw
                    case rel => exact ⟨i + 1, met, ss, gs, _, sc, _, gc, by omega, rfl, rfl, by go_num, hss, hgs, Sq, hM, hP, hN2⟩
                    case measure => simp [intOf]; omega
        · obtain rfl : i = n.tracks.length := by omega
          have hNX : NXT = met := by rw [hN.out, Nat.sub_self]; rfl
          have HRN2 : Hid (RM = Pl.metFrom (Pl.run n c reb) n.tracks.length (100 - (k + 1)) met (k + 1)) := by show _ = _; rw [show 100 - (k + 1) = 99 - k by omega, ← hNX]; exact HRN.out
          have hni : ¬ (n.tracks.length : Int) < (n.tracks.length : Int) := by omega
          clear hN hNX hP hsl hgl hz
          go_wp2_with fail
          go_roundw
          case rel => exact ⟨k + 1, met, ss, gs, SA, sc, GA, gc, by omega, rfl, rfl, by go_num, hss, hgs, hS, hM, HRN2⟩
          case measure => simp [intOf]; omega
    · have hRE : RM = met := by rw [hR.out]; exact Pl.metFrom_end (by omega)
      have hd : decide (0 ≤ idx ss ds) = RES := by
        rw [HRR.out, hRE]
        have h1 : ds ∈ ss ↔ (met.any fun q => q.1 == ds) = true := by
          rw [hss.out]; simp
        cases hv : met.any fun q => q.1 == ds
        · have h2 : ds ∉ ss := fun h => by rw [h1.1 h] at hv; cases hv
          have := (idx_lt ss ds).2 h2
          simp; omega
        · have := (idx_ge ss ds).2 (h1.2 hv)
          simp; omega
      have HD := Lib.hid hd
      have hni : ¬ (k : Int) < (ss.length : Int) := by omega
      have HBW := Lib.hid (HB1.out.trans (hS.out.bel.mono (by omega)))
      clear hd hRE hR hsl hgl
      go_wp2_with fail
      refine (seat_any SA sc ss ds _ _ hS.out.s.ints (by have := HSL.out; omega)).mono ?_
      rintro e w2 ⟨rfl, rfl⟩
      go_wp2_with fail
      go_ret2
      exact ⟨by rw [← HD.out]; rfl, HBW.out⟩
end Go.Proofs.Ytpbjpochjagicaa
