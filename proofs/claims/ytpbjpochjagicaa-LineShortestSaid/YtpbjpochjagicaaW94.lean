/- Walks: LineShortest (by gen_law11.py). -/
import Derived.Test.YtpbjpochjagicaaSy
import Derived.Test.YtpbjpochjagicaaW93
import Derived.Test.YtpbjpochjagicaaW49
import Derived.Test.YtpbjpochjagicaaW51
import Derived.Test.YtpbjpochjagicaaW60
import Derived.Test.YtpbjpochjagicaaW34
namespace Go.Proofs.Ytpbjpochjagicaa
open Go.RowKit

theorem ints_len (l : List Nat) : (Pl.ints l).length = l.length := by simp [Pl.ints]
theorem printed_at {n : Pl.Nt} {c : Pl.Cch} {fr gg : Int} (h : ∀ {way : List Int}, (∀ x ∈ way, 0 ≤ x ∧ x < (n.tracks.length : Int)) → Pl.printed n c fr gg way = 0) {l : List Nat} (hr : Pl.RunOk n.tracks.length (Pl.run n c []) (fr, gg) l) :
    changesVal n c fr gg (Pl.ints l) = .tuple #[.int .i64 (Pl.chOf (Pl.run n c []) (fr, gg) l), .int .i64 0] := changes_run (h (run_lines hr)) hr
/-- A way as it lies in a row of ways, read in a later world. -/
def WkAt (W : World) (b k : Nat) (A : Option Addr) (cc : Nat) (x : Wk) : Prop :=
  W.cell? ⟨b, k * 5, none⟩ = some (.slice A x.way.length cc) ∧ W.cell? ⟨b, k * 5 + 1, none⟩ = some (.int .i64 x.stop) ∧ W.cell? ⟨b, k * 5 + 2, none⟩ = some (.int .i64 x.gauge) ∧ W.cell? ⟨b, k * 5 + 3, none⟩ = some (.int .i64 x.km) ∧ W.cell? ⟨b, k * 5 + 4, none⟩ = some (.int .i64 x.turn)
theorem wks_at {w : World} {base g : Nat} {c : Nat} {ls : List Wk} (h : OwnWks w base (some ⟨g, 0, none⟩) c ls) {k : Nat} {x : Wk} (hl : ls[k]? = some x) :
    ∃ A' c', x.way.length ≤ 1000 ∧ ∀ w', Below w.heap.size w w' → WkAt w' g k A' c' x ∧ Ints w' w'.heap.size A' x.way := by
  obtain ⟨b, A', c', hA, _, _, hll, hp⟩ := h.pick hl
  injection hA with hA
  injection hA with hA _ _
  subst hA
  exact ⟨A', c', hll, fun w' hb => by
    have := hp w' ((KeepIn.refl base w).below hb (Nat.le_refl _))
    exact ⟨this.1, this.2.more hb.size⟩⟩

set_option maxRecDepth 20000 in
set_option maxHeartbeats 8000000 in
theorem law11 (A : Option Addr) (cp : Nat) (xs : List Int) (w : World) (hx : Ints w w.heap.size A xs) (hl : xs.length ≤ 9223372036854775807) :
    Calls Try.prog 11 #[.slice A xs.length cp] w fun e w' => e = .returned (.bool true) ∧ Below w.heap.size w w' := by
  go_enter Try.func11, Try.ntmps11
  go_wp2_with fail
  refine (newBag_any A cp xs w hx hl).mono ?_
  rintro e w1 ⟨g, rfl, hgw, hb1, hB1⟩
  have HB1 := Lib.hid hB1
  have hg1 := hb1.lt
  go_wp2_with fail
  refine (netOf_any g 4 5 w1 hb1 (by omega) (by omega) (by omega) (by omega)).mono ?_
  rintro e w2 ⟨n, n_tA, n_sA, n_tc, n_sc, rfl, htr, hsh, hn, k12⟩
  have Htr := Lib.hid htr
  have Hsh := Lib.hid hsh
  have Hn := Lib.hid hn
  have hst4 : n.stops ≤ 4 := hn.2.2.1
  have ht5i : (n.tracks.length : Int) ≤ 5 := hn.2.2.2.1
  have K12 := Lib.hid k12
  have b2 := k12.bag
  clear htr hsh hn k12 hB1 hx
  go_wp2_with fail
  refine (coach_any g w2 b2).mono ?_
  rintro e w3 ⟨c, c_gA, c_bA, c_hA, c_gc, c_bc, c_hc, rfl, hga, hbr, hhe, hc, k23⟩
  have Hga := Lib.hid hga
  have Hbr := Lib.hid hbr
  have Hhe := Lib.hid hhe
  have Hc := Lib.hid hc
  have K23 := Lib.hid k23
  clear hga hbr hhe hc k23
  go_wp2_with fail
  have hNb := blk_alloc (heap_alloc_new w3 (.cells #[.int .i64 n.stops, .slice n_tA n.tracks.length n_tc, .slice n_sA n.shops.length n_sc] 27)) (.cells #[.slice c_gA c.gauges.length c_gc, .int .i64 c.size, .int .i64 c.load, .slice c_bA c.brakes.length c_bc, .slice c_hA c.heats.length c_hc, .bool c.hooks] 30)
  have hCb : ((w3.alloc (.cells #[.int .i64 n.stops, .slice n_tA n.tracks.length n_tc, .slice n_sA n.shops.length n_sc] 27)).alloc (.cells #[.slice c_gA c.gauges.length c_gc, .int .i64 c.size, .int .i64 c.load, .slice c_bA c.brakes.length c_bc, .slice c_hA c.heats.length c_hc, .bool c.hooks] 30)).heap[w3.heap.size + 1]? = some (.cells #[.slice c_gA c.gauges.length c_gc, .int .i64 c.size, .int .i64 c.load, .slice c_bA c.brakes.length c_bc, .slice c_hA c.heats.length c_hc, .bool c.hooks] 30 (0, 0)) := by
    have := heap_alloc_new (w3.alloc (.cells #[.int .i64 n.stops, .slice n_tA n.tracks.length n_tc, .slice n_sA n.shops.length n_sc] 27)) (.cells #[.slice c_gA c.gauges.length c_gc, .int .i64 c.size, .int .i64 c.load, .slice c_bA c.brakes.length c_bc, .slice c_hA c.heats.length c_hc, .bool c.hooks] 30)
    simpa using this
  have hb34 : Below w3.heap.size w3 ((w3.alloc (.cells #[.int .i64 n.stops, .slice n_tA n.tracks.length n_tc, .slice n_sA n.shops.length n_sc] 27)).alloc (.cells #[.slice c_gA c.gauges.length c_gc, .int .i64 c.size, .int .i64 c.load, .slice c_bA c.brakes.length c_bc, .slice c_hA c.heats.length c_hc, .bool c.hooks] 30)) := ((Below.refl _ _).alloc (Nat.le_refl _) _).alloc (by simp) _
  have hD := dealt_of n n_tA n_sA n_tc n_sc c c_gA c_bA c_hA c_gc c_bc c_hc hg1 Htr.out Hsh.out Hn.out (by omega) (by omega) K12.out Hga.out Hbr.out Hhe.out Hc.out K23.out hb34 hNb hCb (Nat.le_refl _) (by omega)
  have hW4 : Below w.heap.size w ((w3.alloc (.cells #[.int .i64 n.stops, .slice n_tA n.tracks.length n_tc, .slice n_sA n.shops.length n_sc] 27)).alloc (.cells #[.slice c_gA c.gauges.length c_gc, .int .i64 c.size, .int .i64 c.load, .slice c_bA c.brakes.length c_bc, .slice c_hA c.heats.length c_hc, .bool c.hooks] 30)) := by
    have hs12 := K12.out.size
    have hs23 := K23.out.size
    have hs1 := HB1.out.size
    exact ((HB1.out.trans (K12.out.below hgw hg1)).trans (K23.out.below hgw (by omega))).trans (hb34.mono (by omega))
  clear Htr Hsh Hn K12 Hga Hbr Hhe Hc K23 hb34 hNb hCb b2 HB1
  generalize hQ : w3.heap.size + 1 = Q at hD ⊢
  generalize (w3.alloc (.cells #[.int .i64 n.stops, .slice n_tA n.tracks.length n_tc, .slice n_sA n.shops.length n_sc] 27)).alloc (.cells #[.slice c_gA c.gauges.length c_gc, .int .i64 c.size, .int .i64 c.load, .slice c_bA c.brakes.length c_bc, .slice c_hA c.heats.length c_hc, .bool c.hooks] 30) = w4 at hD hW4 ⊢
  generalize w3.heap.size = P at hD ⊢
  clear hQ
  have HW4 := Lib.hid hW4
  clear hW4
  obtain ⟨gb, hgA, hgb⟩ := hD.gauges
  subst hgA
  have D0 := Lib.hid hD
  have hst1 := hD.st
  have hst6 := hD.st6
  have hng := hD.ng
  have hlg := hD.lg
  have hP := lt_of_block hD.b4
  have hQ := lt_of_block hD.b5
  have hS : w4.drew.cell? ⟨P, 0, none⟩ = some (.int .i64 n.stops) ∧ w4.drew.cell? ⟨Q, 0, none⟩ = some (.slice (some ⟨gb, 0, none⟩) c.gauges.length c_gc) := ⟨hD.drew.ncells.1, hD.drew.ccells.1⟩
  have HW := Lib.hid (IntWalk.i64_in (n.stops - 1) ⟨by omega, by omega⟩)
  clear hD
  go_region_held3 (fun w' => w'.cell? ⟨P, 0, none⟩ = some (.int .i64 n.stops) ∧ w'.cell? ⟨Q, 0, none⟩ = some (.slice (some ⟨gb, 0, none⟩) c.gauges.length c_gc))
    (first | go_keep | exact hS)
    (first
      | (go_at_call 18; rw [HW.out]; refine (up_any g _ _ D0.out.drew.bag (by omega)).mono ?_; rintro e w5 ⟨fr, rfl, hf0, hf1, hB5⟩; have D5 := Lib.hid (D0.out.drew.bagged hB5); have HB5 := Lib.hid hB5; clear hB5; have hS := And.intro D5.out.ncells.1 D5.out.ccells.1)
      | (go_at_call 19; refine (one_any g gb 0 _ c.gauges _ D5.out.bag D5.out.ga.ints hgb hng (by omega)).mono ?_; rintro e w6 ⟨ga, rfl, hgm, hB6⟩; have D6 := Lib.hid (D5.out.bagged hB6); have HB6 := Lib.hid hB6; clear hB6; have hS := And.intro D6.out.ncells.1 D6.out.ccells.1)
      | (go_at_call 18; refine (up_any g _ _ D6.out.bag (by omega)).mono ?_; rintro e w7 ⟨ds, rfl, hd0, hd1, hB7⟩; have D7 := Lib.hid (D6.out.bagged hB7); have HB7 := Lib.hid hB7; clear hB7; have hS := And.intro D7.out.ncells.1 D7.out.ccells.1))
  have HW7 := Lib.hid (HW4.out.trans ((((((Kb.refl D0.out.bag).drew.bagged HB5.out).bagged HB6.out)).bagged HB7.out).below hgw D0.out.bag.lt))
  clear HW4 HB5 HB6 HB7 hS
  have HA := Lib.hid (D7.out.asked hf0 (by omega) hgm hd0 (by omega))
  have hg13 := (fits_lists D7.out.ft).1 ga hgm
  have hg1 := hg13.1
  have hg3 := hg13.2
  have ht5 : n.tracks.length ≤ 5 := by omega
  have hfr3 : fr ≤ 3 := by omega
  have hfrn : fr ≤ n.stops - 1 := by omega
  have HPR : Hid (∀ {l : List Nat}, Pl.RunOk n.tracks.length (Pl.run n c []) (fr, ga) l → changesVal n c fr ga (Pl.ints l) = .tuple #[.int .i64 (Pl.chOf (Pl.run n c []) (fr, ga) l), .int .i64 0]) := fun hr => printed_at (fun hw => D7.out.printed hf0 hfrn hgm hw) hr
  have HOP : Hid (openOut n c = (Pl.ints (Pl.opens n c), 0)) := by
    show _ = _
    rw [openOut, if_neg (by rw [D7.out.both]; decide)]
    rfl
  have HCK := Lib.hid D7.out.ck
  have HP0 : Hid (((fr, ga) : Pl.Place) ∈ Pl.stops4) := Pl.mem_stops4.2 ⟨hf0, hfr3, hg1, hg3⟩
  clear hg13
  have hnc := D7.out.ncells
  have hcc := D7.out.ccells
  obtain ⟨z0, z1, z2⟩ := hnc
  obtain ⟨x0, x1, x2, x3, x4, x5⟩ := hcc
  go_wp2_with fail
  refine (open_any n n_tA n_sA n_tc n_sc c _ c_bA c_hA c_gc c_bc c_hc w7 D7.out.nreads D7.out.creads (by omega)).mono ?_
  rintro e w8 ⟨oA, oc, rfl, hO8, hb8⟩
  rw [HOP.out] at hO8 ⊢
  obtain ⟨opn, hopn⟩ : ∃ opn, Pl.opens n c = opn := ⟨_, rfl⟩
  rw [hopn] at hO8 ⊢
  have D8 := Lib.hid (D7.out.below hb8)
  have HW8 := Lib.hid (HW7.out.trans (hb8.mono HW7.out.size))
  have HO8 : Hid (Ints w8 w8.heap.size oA (Pl.ints opn)) := hO8.ints
  have HOM : Hid (∀ k ∈ opn, k < n.tracks.length) := fun k hk => (Pl.mem_opens.1 (hopn ▸ hk)).1
  have HOB : Hid (∀ k ∈ opn, Pl.barred c (n.tracks.getD k default) = []) := fun k hk => (Pl.mem_opens.1 (hopn ▸ hk)).2
  have HON : Hid opn.Nodup := hopn ▸ Pl.opens_nodup
  have HIN : Hid (∀ x ∈ Pl.ints opn, 0 ≤ x ∧ x < (n.tracks.length : Int)) := fun x hx => by
    obtain ⟨k, hk, rfl⟩ := List.mem_map.1 hx
    have := HOM.out k hk
    omega
  have hol : opn.length ≤ 5 := by have := Pl.opens_len (n := n) (c := c); rw [hopn] at this; omega
  have HOE := Lib.hid hopn
  have HOL : Hid ((Pl.ints opn).length ≤ 1000) := by show _ ≤ _; rw [ints_len]; omega
  clear z0 z1 z2 x0 x1 x2 x3 x4 x5
  clear hb8 HW7 hO8 hopn
  simp only
  have hnc := D8.out.ncells
  have hcc := D8.out.ccells
  obtain ⟨z0, z1, z2⟩ := hnc
  obtain ⟨x0, x1, x2, x3, x4, x5⟩ := hcc
  go_wp2_with fail
  refine (lines_yes n n_tA n_sA n_tc n_sc oA oc (Pl.ints opn) _ HO8.out HOL.out HIN.out (by omega)).mono ?_
  rintro e w9 ⟨rfl, hb9⟩
  have D9 := Lib.hid (D8.out.below hb9)
  have HW9 := Lib.hid (HW8.out.trans (hb9.mono HW8.out.size))
  have HO9 := Lib.hid ((HO8.out.below hb9).more hb9.size)
  clear z0 z1 z2 x0 x1 x2 x3 x4 x5
  clear hb9 HW8 HO8
  have hnc := D9.out.ncells
  have hcc := D9.out.ccells
  obtain ⟨z0, z1, z2⟩ := hnc
  obtain ⟨x0, x1, x2, x3, x4, x5⟩ := hcc
  go_wp2_with fail
  refine (walks_any n n_tA n_sA n_tc n_sc c oA oc opn fr ga _ D9.out.nreads HO9.out HCK.out hst4 ht5 (by have := D9.out.s6; omega) HOM.out HON.out HOB.out hol hf0 hfrn hg1 hg3).mono ?_
  rintro e w10 ⟨I, lA, lc, rfl, hO, hI, hle, hb10⟩
  have hL19 := (Pl.grow_few (n := n) (c := c) ht5 HOM.out HON.out (gets4 HCK.out hst4 HP0.out) Pl.stops4_split I hI).2
  have D10 := Lib.hid (D9.out.below hb10)
  have HW10 := Lib.hid (HW9.out.trans (hb10.mono HW9.out.size))
  have HBN : Hid ((∀ j l, j < (Pl.grow (Pl.run n c []) (fr, ga) opn I).length → (Pl.grow (Pl.run n c []) (fr, ga) opn I)[j]? = some l → (Pl.endOf (Pl.run n c []) (fr, ga) l).1 ≠ ds) → Pl.way n c fr ga ds = none) := fun h => by
    rw [← HOE.out] at h hI hle
    exact Pl.best_none hI hle h
  have HBS : Hid (∀ x, x ∈ Pl.grow (Pl.run n c []) (fr, ga) opn I → (Pl.endOf (Pl.run n c []) (fr, ga) x).1 = ds → (∀ j l, j < (Pl.grow (Pl.run n c []) (fr, ga) opn I).length → (Pl.grow (Pl.run n c []) (fr, ga) opn I)[j]? = some l → (Pl.endOf (Pl.run n c []) (fr, ga) l).1 = ds → Pl.better (Pl.tripOf n c (fr, ga) l) (Pl.tripOf n c (fr, ga) x) = false) → Pl.way n c fr ga ds = some (Pl.tripOf n c (fr, ga) x)) := fun x hx he h => by
    rw [← HOE.out] at hx h hI hle
    exact Pl.best_some (fun i hi => (trk_at HCK.out hi).km0) Pl.stops4 (gets4 HCK.out hst4 HP0.out) (by decide) hI hle hx he h
  have HWK : Hid (∀ l, l ∈ Pl.grow (Pl.run n c []) (fr, ga) opn I → WkIn n c (fr, ga) l) := fun l h => wk_in4 HCK.out hst4 HP0.out HOM.out h
  clear hI hle HOE
  generalize Pl.grow (Pl.run n c []) (fr, ga) opn I = gl at *
  have HOW := Lib.hid hO
  clear z0 z1 z2 x0 x1 x2 x3 x4 x5
  clear hb10 hO HW9 HO9 D9 D8 D7 HOM HOB HON HIN HOL HOP HP0 HCK hol
  have HZ10 : Hid (Below w10.heap.size w10 w10) := Below.refl _ _
  go_wp2_with fail
  go_loopw [12, 13] (fun bv iv wr => ∃ (k : Nat) (best : Int), k ≤ gl.length ∧ bv = .int .i64 best ∧ iv = .int .i64 k ∧ Hid (Pl.BestAt n c (fr, ga) ds gl k best) ∧ Hid (Below w10.heap.size w10 wr)) (fun _ i _ => gl.length - (intOf i).toNat)
  case atStart => exact ⟨0, -1, Nat.zero_le _, rfl, rfl, Pl.best_zero, HZ10.out⟩
  case round =>
    obtain ⟨k, best, hk, rfl, rfl, hbest, hB⟩ := hrel
    by_cases hkl : k < gl.length
    · obtain ⟨l, hl⟩ : ∃ l, gl[k]? = some l := ⟨_, List.getElem?_eq_getElem hkl⟩
      have hki : (k : Int) < (gl.length : Int) := by omega
      obtain ⟨g0, hg0⟩ : ∃ g0, lA = some ⟨g0, 0, none⟩ := by
        obtain ⟨b, _, _, hA, _⟩ := HOW.out.pick (k := k) (x := toWk n c (fr, ga) l) (by rw [List.getElem?_map, hl]; rfl)
        exact ⟨b, hA⟩
      subst hg0
      obtain ⟨A1, c1, hl1, hp1⟩ := wks_at HOW.out (k := k) (x := toWk n c (fr, ga) l) (by rw [List.getElem?_map, hl]; rfl)
      have HP1 := Lib.hid hp1
      have HL := Lib.hid hl
      clear hp1 hl
      by_cases he : (Pl.endOf (Pl.run n c []) (fr, ga) l).1 = ds
      · rcases hbest.out with ⟨hbe, hno⟩ | ⟨b2, x, rfl, hb2, hx, hxe, hmin⟩
        · have HN := Lib.hid (Pl.best_first hno HL.out he)
          have hbl : best < 0 := by omega
          have hbd : decide (best < 0) = true := decide_eq_true hbl
          clear hbe
          obtain ⟨⟨y0, y1, y2, y3, y4⟩, _⟩ := HP1.out wr hB.out
          have y1 : wr.cell? ⟨g0, k * 5 + 1, none⟩ = some (.int .i64 ds) := by rw [y1]; show some (Value.int .i64 (Pl.endOf (Pl.run n c []) (fr, ga) l).1) = _; rw [he]
          have hS : wr.drew.cell? ⟨g0, k * 5 + 1, none⟩ = some (.int .i64 ds) := y1
          clear hno hbest y0 y1 y2 y3 y4 he
          go_wp2_with fail
          refine wp_region_L (by kernel_rfl) (fun W => W.cell? ⟨g0, k * 5 + 1, none⟩ = some (.int .i64 ds)) [] ?_
          refine wpAnyL_take (i := 0) (v := ?v0) rfl (by kernel_rfl) (by kernel_rfl) (by kernel_rfl) (by kernel_rfl) (by rfl) (fun _ _ _ h => h) hS (Or.inl ⟨by rfl, ?hy0⟩) ?hr0
          case hy0 => (intro w hSw; (try dsimp only at hSw); go_simp; (try rfl))
          simp only [List.getElem_toArray, List.getElem_cons_zero, Act.put, List.setIfInBounds_toArray, List.set_cons_zero, List.set_cons_succ]
          refine wpAnyL_take (i := 1) (v := ?v1) rfl (by kernel_rfl) (by kernel_rfl) (by kernel_rfl) (by kernel_rfl) (by rfl) (fun _ _ _ h => h) hS (Or.inl ⟨by rfl, ?hy1⟩) ?hr1
          case hy1 => (intro w hSw; (try dsimp only at hSw); go_simp; (try rfl))
          simp only [List.getElem_toArray, List.getElem_cons_succ, List.getElem_cons_zero, Act.put, List.setIfInBounds_toArray, List.set_cons_zero, List.set_cons_succ]
          refine wpAnyL_take (i := 2) (v := ?v2) rfl (by kernel_rfl) (by kernel_rfl) (by kernel_rfl) (by kernel_rfl) (by rfl) (fun _ _ _ h => h) hS (Or.inl ⟨by rfl, ?hy2⟩) ?hr2
          case hy2 => (intro w hSw; (try dsimp only at hSw); go_simp; (try rfl))
          simp only [List.getElem_toArray, List.getElem_cons_succ, List.getElem_cons_zero, Act.put, List.setIfInBounds_toArray, List.set_cons_zero, List.set_cons_succ]
          refine wpAnyL_take (i := 3) (v := ?v3) rfl (by kernel_rfl) (by kernel_rfl) (by kernel_rfl) (by kernel_rfl) (by rfl) (fun _ _ _ h => h) hS (Or.inl ⟨by rfl, ?hy3⟩) ?hr3
          case hy3 => (intro w hSw; (try dsimp only at hSw); go_simp; (try rfl))
          simp only [List.getElem_toArray, List.getElem_cons_succ, List.getElem_cons_zero, Act.put, List.setIfInBounds_toArray, List.set_cons_zero, List.set_cons_succ]
          refine wpAnyL_take (i := 4) (v := ?v4) rfl (by kernel_rfl) (by kernel_rfl) (by kernel_rfl) (by kernel_rfl) (by rfl) (fun _ _ _ h => h) hS (Or.inl ⟨by rfl, ?hy4⟩) ?hr4
          case hy4 => (intro w hSw; (try dsimp only at hSw); go_simp; (try rfl))
          simp only [List.getElem_toArray, List.getElem_cons_succ, List.getElem_cons_zero, Act.put, List.setIfInBounds_toArray, List.set_cons_zero, List.set_cons_succ]
          refine wpAnyL_take (i := 5) (v := ?v5) rfl (by kernel_rfl) (by kernel_rfl) (by kernel_rfl) (by kernel_rfl) (by rfl) (fun _ _ _ h => h) hS (Or.inl ⟨by rfl, ?hy5⟩) ?hr5
          case hy5 => (intro w hSw; (try dsimp only at hSw); go_simp; (try rfl))
          simp only [List.getElem_toArray, List.getElem_cons_succ, List.getElem_cons_zero, Act.put, List.setIfInBounds_toArray, List.set_cons_zero, List.set_cons_succ]
          refine wpAnyL_take (i := 6) (v := .bool true) rfl (by kernel_rfl) (by kernel_rfl) (by kernel_rfl) (by kernel_rfl) (by rfl) (fun _ _ _ h => h) hS (Or.inl ⟨by rfl, ?hy6⟩) ?hr6
          case hy6 => (intro w hSw; (try dsimp only at hSw); go_simp; (try rfl))
          simp only [List.getElem_toArray, List.getElem_cons_succ, List.getElem_cons_zero, Act.put, List.setIfInBounds_toArray, List.set_cons_zero, List.set_cons_succ]
          refine wpAnyL_take (i := 7) (v := .bool true) rfl (by kernel_rfl) (by kernel_rfl) (by kernel_rfl) (by kernel_rfl) (by rfl) (fun _ _ _ h => h) hS (Or.inl ⟨by rfl, ?hy7⟩) ?hr7
          case hy7 => (intro w hSw; (try dsimp only at hSw); go_simp; (try rfl))
          simp only [List.getElem_toArray, List.getElem_cons_succ, List.getElem_cons_zero, Act.put, List.setIfInBounds_toArray, List.set_cons_zero, List.set_cons_succ]
          refine wpAnyL_take (i := 8) (v := ?v8) rfl (by kernel_rfl) (by kernel_rfl) (by kernel_rfl) (by kernel_rfl) (by rfl) (fun _ _ _ h => h) hS (Or.inl ⟨by rfl, ?hy8⟩) ?hr8
          case hy8 => (intro w hSw; (try dsimp only at hSw); go_simp; (try rfl))
          simp only [List.getElem_toArray, List.getElem_cons_succ, List.getElem_cons_zero, Act.put, List.setIfInBounds_toArray, List.set_cons_zero, List.set_cons_succ]
          refine wpAnyL_take (i := 9) (v := .bool true) rfl (by kernel_rfl) (by kernel_rfl) (by kernel_rfl) (by kernel_rfl) (by rfl) (fun _ _ _ h => h) hS (Or.inl ⟨by rfl, ?hy9⟩) ?hr9
          case hy9 => (intro w hSw; (try dsimp only at hSw); go_simp; (try rfl))
          simp only [List.getElem_toArray, List.getElem_cons_succ, List.getElem_cons_zero, Act.put, List.setIfInBounds_toArray, List.set_cons_zero, List.set_cons_succ]
          refine wpAnyL_take (i := 10) (v := .bool true) rfl (by kernel_rfl) (by kernel_rfl) (by kernel_rfl) (by kernel_rfl) (by rfl) (fun _ _ _ h => h) hS (Or.inl ⟨by rfl, ?hy10⟩) ?hr10
          case hy10 => (intro w hSw; (try dsimp only at hSw); go_simp; (try rfl))
          simp only [List.getElem_toArray, List.getElem_cons_succ, List.getElem_cons_zero, Act.put, List.setIfInBounds_toArray, List.set_cons_zero, List.set_cons_succ]
          refine wpAnyL_take (i := 11) (v := undef) rfl (by kernel_rfl) (by kernel_rfl) (by kernel_rfl) (by kernel_rfl) (by rfl) (fun _ _ _ h => h) hS (Or.inr ⟨by rfl, rfl⟩) ?hr11
          simp only [List.getElem_toArray, List.getElem_cons_succ, List.getElem_cons_zero, Act.put, List.setIfInBounds_toArray, List.set_cons_zero, List.set_cons_succ]
          refine wpAnyL_take (i := 12) (v := undef) rfl (by kernel_rfl) (by kernel_rfl) (by kernel_rfl) (by kernel_rfl) (by rfl) (fun _ _ _ h => h) hS (Or.inr ⟨by rfl, rfl⟩) ?hr12
          simp only [List.getElem_toArray, List.getElem_cons_succ, List.getElem_cons_zero, Act.put, List.setIfInBounds_toArray, List.set_cons_zero, List.set_cons_succ]
          refine wpAnyL_take (i := 13) (v := undef) rfl (by kernel_rfl) (by kernel_rfl) (by kernel_rfl) (by kernel_rfl) (by rfl) (fun _ _ _ h => h) hS (Or.inr ⟨by rfl, rfl⟩) ?hr13
          simp only [List.getElem_toArray, List.getElem_cons_succ, List.getElem_cons_zero, Act.put, List.setIfInBounds_toArray, List.set_cons_zero, List.set_cons_succ]
          refine wpAnyL_take (i := 14) (v := undef) rfl (by kernel_rfl) (by kernel_rfl) (by kernel_rfl) (by kernel_rfl) (by rfl) (fun _ _ _ h => h) hS (Or.inr ⟨by rfl, rfl⟩) ?hr14
          simp only [List.getElem_toArray, List.getElem_cons_succ, List.getElem_cons_zero, Act.put, List.setIfInBounds_toArray, List.set_cons_zero, List.set_cons_succ]
          refine wpAnyL_take (i := 15) (v := undef) rfl (by kernel_rfl) (by kernel_rfl) (by kernel_rfl) (by kernel_rfl) (by rfl) (fun _ _ _ h => h) hS (Or.inr ⟨by rfl, rfl⟩) ?hr15
          simp only [List.getElem_toArray, List.getElem_cons_succ, List.getElem_cons_zero, Act.put, List.setIfInBounds_toArray, List.set_cons_zero, List.set_cons_succ]
          refine wpAnyL_take (i := 16) (v := undef) rfl (by kernel_rfl) (by kernel_rfl) (by kernel_rfl) (by kernel_rfl) (by rfl) (fun _ _ _ h => h) hS (Or.inr ⟨by rfl, rfl⟩) ?hr16
          simp only [List.getElem_toArray, List.getElem_cons_succ, List.getElem_cons_zero, Act.put, List.setIfInBounds_toArray, List.set_cons_zero, List.set_cons_succ]
          refine wpAnyL_take (i := 17) (v := undef) rfl (by kernel_rfl) (by kernel_rfl) (by kernel_rfl) (by kernel_rfl) (by rfl) (fun _ _ _ h => h) hS (Or.inr ⟨by rfl, rfl⟩) ?hr17
          simp only [List.getElem_toArray, List.getElem_cons_succ, List.getElem_cons_zero, Act.put, List.setIfInBounds_toArray, List.set_cons_zero, List.set_cons_succ]
          refine wpAnyL_take (i := 18) (v := undef) rfl (by kernel_rfl) (by kernel_rfl) (by kernel_rfl) (by kernel_rfl) (by rfl) (fun _ _ _ h => h) hS (Or.inr ⟨by rfl, rfl⟩) ?hr18
          simp only [List.getElem_toArray, List.getElem_cons_succ, List.getElem_cons_zero, Act.put, List.setIfInBounds_toArray, List.set_cons_zero, List.set_cons_succ]
          refine wpAnyL_take (i := 19) (v := undef) rfl (by kernel_rfl) (by kernel_rfl) (by kernel_rfl) (by kernel_rfl) (by rfl) (fun _ _ _ h => h) hS (Or.inr ⟨by rfl, rfl⟩) ?hr19
          simp only [List.getElem_toArray, List.getElem_cons_succ, List.getElem_cons_zero, Act.put, List.setIfInBounds_toArray, List.set_cons_zero, List.set_cons_succ]
          refine wpAnyL_take (i := 20) (v := .bool true) rfl (by kernel_rfl) (by kernel_rfl) (by kernel_rfl) (by kernel_rfl) (by rfl) (fun _ _ _ h => h) hS (Or.inl ⟨by rfl, ?hy20⟩) ?hr20
          case hy20 => (intro w hSw; (try dsimp only at hSw); go_simp; (try rfl))
          simp only [List.getElem_toArray, List.getElem_cons_succ, List.getElem_cons_zero, Act.put, List.setIfInBounds_toArray, List.set_cons_zero, List.set_cons_succ]
          refine wpAnyL_take (i := 21) (v := .bool true) rfl (by kernel_rfl) (by kernel_rfl) (by kernel_rfl) (by kernel_rfl) (by rfl) (fun _ _ _ h => h) hS (Or.inl ⟨by rfl, ?hy21⟩) ?hr21
          case hy21 => (intro w hSw; (try dsimp only at hSw); go_simp; (try rfl))
          simp only [List.getElem_toArray, List.getElem_cons_succ, List.getElem_cons_zero, Act.put, List.setIfInBounds_toArray, List.set_cons_zero, List.set_cons_succ]
          refine wpAnyL_done (by kernel_rfl) ?_
          try simp only [Act.put]
          have HBq : Hid (Below w10.heap.size w10 wr.drew) := hB.out.drew
          clear hS
          go_wp2_with fail
          go_roundw
          case rel => exact ⟨k + 1, k, by omega, rfl, by go_num, HN, HBq⟩
          case measure => simp [intOf]; omega
        · obtain ⟨A2, c2, hl2, hp2⟩ := wks_at HOW.out (k := b2) (x := toWk n c (fr, ga) x) (by rw [List.getElem?_map, hx]; rfl)
          have HP2 := Lib.hid hp2
          have HY : Hid (Pl.better (Pl.tripOf n c (fr, ga) l) (Pl.tripOf n c (fr, ga) x) = true → Pl.BestAt n c (fr, ga) ds gl (k + 1) k) := fun h => Pl.best_next hb2 hx hxe hmin HL.out he h
          have HK : Hid (Pl.better (Pl.tripOf n c (fr, ga) l) (Pl.tripOf n c (fr, ga) x) = false → Pl.BestAt n c (fr, ga) ds gl (k + 1) b2) := fun h => Pl.best_keep hb2 hx hxe hmin HL.out h
          have hb2i : (b2 : Int) < (gl.length : Int) := by omega
          have hbn0 : ¬ (b2 : Int) < 0 := by omega
          have hbn1 : decide ((b2 : Int) < 0) = false := decide_eq_false hbn0
          clear hp2 hbest hmin hx hxe
          obtain ⟨tl, htl⟩ : ∃ t, toWk n c (fr, ga) l = t := ⟨_, rfl⟩
          obtain ⟨tx, htx⟩ : ∃ t, toWk n c (fr, ga) x = t := ⟨_, rfl⟩
          have HTB : Hid (Pl.better ⟨tl.way, tl.km, tl.turn⟩ ⟨tx.way, tx.km, tx.turn⟩ = Pl.better (Pl.tripOf n c (fr, ga) l) (Pl.tripOf n c (fr, ga) x)) := by rw [← htl, ← htx]; rfl
          have hste : tl.stop = ds := by rw [← htl]; exact he
          rw [htl] at HP1 hl1
          rw [htx] at HP2 hl2
          obtain ⟨lw, ls, lg, lk, lt⟩ := tl
          obtain ⟨xw, xs2, xg, xk, xt⟩ := tx
          obtain rfl : ls = ds := hste
          clear htl htx he
          have hS : ∀ W, Below wr.heap.size wr W → WkAt W g0 k A1 c1 ⟨lw, ls, lg, lk, lt⟩ ∧ WkAt W g0 b2 A2 c2 ⟨xw, xs2, xg, xk, xt⟩ := fun W hW => ⟨(HP1.out W (hB.out.trans (hW.mono hB.out.size))).1, (HP2.out W (hB.out.trans (hW.mono hB.out.size))).1⟩
          simp only [WkAt] at hS
          have HSS := Lib.hid hS
          have hS := hS wr.drew (Below.refl _ _).drew
          have HI1 := Lib.hid (HP1.out wr.drew (hB.out.drew)).2
          have HI2 := Lib.hid (HP2.out wr.drew (hB.out.drew)).2
          simp only at HI1 HI2 hl1 hl2
          go_wp2_with fail
          go_region_held3 (fun W => (W.cell? ⟨g0, k * 5, none⟩ = some (.slice A1 lw.length c1) ∧ W.cell? ⟨g0, k * 5 + 1, none⟩ = some (.int .i64 ls) ∧ W.cell? ⟨g0, k * 5 + 2, none⟩ = some (.int .i64 lg) ∧ W.cell? ⟨g0, k * 5 + 3, none⟩ = some (.int .i64 lk) ∧ W.cell? ⟨g0, k * 5 + 4, none⟩ = some (.int .i64 lt)) ∧ (W.cell? ⟨g0, b2 * 5, none⟩ = some (.slice A2 xw.length c2) ∧ W.cell? ⟨g0, b2 * 5 + 1, none⟩ = some (.int .i64 xs2) ∧ W.cell? ⟨g0, b2 * 5 + 2, none⟩ = some (.int .i64 xg) ∧ W.cell? ⟨g0, b2 * 5 + 3, none⟩ = some (.int .i64 xk) ∧ W.cell? ⟨g0, b2 * 5 + 4, none⟩ = some (.int .i64 xt)))
            (first | go_keep | (with_reducible exact hS))
            (first
              | (go_at_call 57; refine (sooner_any ⟨lw, ls, lg, lk, lt⟩ ⟨xw, xs2, xg, xk, xt⟩ A1 A2 c1 c2 _ HI1.out HI2.out hl1 hl2).mono ?_; rintro e wq ⟨rfl, hbq⟩; have HBQ := Lib.hid hbq; have hS := HSS.out wq ((Below.refl _ _).drew.trans hbq); rw [HTB.out]; clear hbq))
          cases hbt : Pl.better (Pl.tripOf n c (fr, ga) l) (Pl.tripOf n c (fr, ga) x)
          · have HN := Lib.hid (HK.out hbt)
            have HBq : Hid (Below w10.heap.size w10 wq) := hB.out.drew.trans (HBQ.out.mono hB.out.size)
            clear HY HK hbt
            go_wp2_with fail
            go_roundw
            case rel => exact ⟨k + 1, b2, by omega, rfl, by go_num, HN, HBq⟩
            case measure => simp [intOf]; omega
          · have HN := Lib.hid (HY.out hbt)
            have HBq : Hid (Below w10.heap.size w10 wq) := hB.out.drew.trans (HBQ.out.mono hB.out.size)
            clear HY HK hbt
            go_wp2_with fail
            go_roundw
            case rel => exact ⟨k + 1, k, by omega, rfl, by go_num, HN, HBq⟩
            case measure => simp [intOf]; omega
      · have HN := Lib.hid (Pl.best_away hbest.out HL.out he)
        obtain ⟨⟨y0, y1, y2, y3, y4⟩, _⟩ := HP1.out wr hB.out
        have y1 : wr.cell? ⟨g0, k * 5 + 1, none⟩ = some (.int .i64 (Pl.endOf (Pl.run n c []) (fr, ga) l).1) := y1
        generalize (Pl.endOf (Pl.run n c []) (fr, ga) l).1 = s at y1 he
        have hq1 : (s == ds) = false := by rw [beq_eq_false_iff_ne]; exact he
        have hS : wr.drew.cell? ⟨g0, k * 5 + 1, none⟩ = some (.int .i64 s) := y1
        clear hbest y0 y1 y2 y3 y4
        go_wp2_with fail
        refine wp_region_L (by kernel_rfl) (fun W => W.cell? ⟨g0, k * 5 + 1, none⟩ = some (.int .i64 s)) [] ?_
        refine wpAnyL_take (i := 0) (v := ?vb0) rfl (by kernel_rfl) (by kernel_rfl) (by kernel_rfl) (by kernel_rfl) (by rfl) (fun _ _ _ h => h) hS (Or.inl ⟨by rfl, ?hyb0⟩) ?hrb0
        case hyb0 => (intro w hSw; (try dsimp only at hSw); go_simp; (try rfl))
        simp only [List.getElem_toArray, List.getElem_cons_zero, Act.put, List.setIfInBounds_toArray, List.set_cons_zero, List.set_cons_succ]
        refine wpAnyL_take (i := 1) (v := ?vb1) rfl (by kernel_rfl) (by kernel_rfl) (by kernel_rfl) (by kernel_rfl) (by rfl) (fun _ _ _ h => h) hS (Or.inl ⟨by rfl, ?hyb1⟩) ?hrb1
        case hyb1 => (intro w hSw; (try dsimp only at hSw); go_simp; (try rfl))
        simp only [List.getElem_toArray, List.getElem_cons_succ, List.getElem_cons_zero, Act.put, List.setIfInBounds_toArray, List.set_cons_zero, List.set_cons_succ]
        refine wpAnyL_take (i := 2) (v := ?vb2) rfl (by kernel_rfl) (by kernel_rfl) (by kernel_rfl) (by kernel_rfl) (by rfl) (fun _ _ _ h => h) hS (Or.inl ⟨by rfl, ?hyb2⟩) ?hrb2
        case hyb2 => (intro w hSw; (try dsimp only at hSw); go_simp; (try rfl))
        simp only [List.getElem_toArray, List.getElem_cons_succ, List.getElem_cons_zero, Act.put, List.setIfInBounds_toArray, List.set_cons_zero, List.set_cons_succ]
        refine wpAnyL_take (i := 3) (v := ?vb3) rfl (by kernel_rfl) (by kernel_rfl) (by kernel_rfl) (by kernel_rfl) (by rfl) (fun _ _ _ h => h) hS (Or.inl ⟨by rfl, ?hyb3⟩) ?hrb3
        case hyb3 => (intro w hSw; (try dsimp only at hSw); go_simp; (try rfl))
        simp only [List.getElem_toArray, List.getElem_cons_succ, List.getElem_cons_zero, Act.put, List.setIfInBounds_toArray, List.set_cons_zero, List.set_cons_succ]
        refine wpAnyL_take (i := 4) (v := ?vb4) rfl (by kernel_rfl) (by kernel_rfl) (by kernel_rfl) (by kernel_rfl) (by rfl) (fun _ _ _ h => h) hS (Or.inl ⟨by rfl, ?hyb4⟩) ?hrb4
        case hyb4 => (intro w hSw; (try dsimp only at hSw); go_simp; (try rfl))
        simp only [List.getElem_toArray, List.getElem_cons_succ, List.getElem_cons_zero, Act.put, List.setIfInBounds_toArray, List.set_cons_zero, List.set_cons_succ]
        refine wpAnyL_take (i := 5) (v := ?vb5) rfl (by kernel_rfl) (by kernel_rfl) (by kernel_rfl) (by kernel_rfl) (by rfl) (fun _ _ _ h => h) hS (Or.inl ⟨by rfl, ?hyb5⟩) ?hrb5
        case hyb5 => (intro w hSw; (try dsimp only at hSw); go_simp; (try rfl))
        simp only [List.getElem_toArray, List.getElem_cons_succ, List.getElem_cons_zero, Act.put, List.setIfInBounds_toArray, List.set_cons_zero, List.set_cons_succ]
        refine wpAnyL_take (i := 6) (v := .bool false) rfl (by kernel_rfl) (by kernel_rfl) (by kernel_rfl) (by kernel_rfl) (by rfl) (fun _ _ _ h => h) hS (Or.inl ⟨by rfl, ?hyb6⟩) ?hrb6
        case hyb6 => (intro w hSw; (try dsimp only at hSw); go_simp; (try rfl))
        simp only [List.getElem_toArray, List.getElem_cons_succ, List.getElem_cons_zero, Act.put, List.setIfInBounds_toArray, List.set_cons_zero, List.set_cons_succ]
        refine wpAnyL_take (i := 7) (v := .bool false) rfl (by kernel_rfl) (by kernel_rfl) (by kernel_rfl) (by kernel_rfl) (by rfl) (fun _ _ _ h => h) hS (Or.inl ⟨by rfl, ?hyb7⟩) ?hrb7
        case hyb7 => (intro w hSw; (try dsimp only at hSw); go_simp; (try rfl))
        simp only [List.getElem_toArray, List.getElem_cons_succ, List.getElem_cons_zero, Act.put, List.setIfInBounds_toArray, List.set_cons_zero, List.set_cons_succ]
        refine wpAnyL_take (i := 8) (v := undef) rfl (by kernel_rfl) (by kernel_rfl) (by kernel_rfl) (by kernel_rfl) (by rfl) (fun _ _ _ h => h) hS (Or.inr ⟨by rfl, rfl⟩) ?hrb8
        simp only [List.getElem_toArray, List.getElem_cons_succ, List.getElem_cons_zero, Act.put, List.setIfInBounds_toArray, List.set_cons_zero, List.set_cons_succ]
        refine wpAnyL_take (i := 9) (v := undef) rfl (by kernel_rfl) (by kernel_rfl) (by kernel_rfl) (by kernel_rfl) (by rfl) (fun _ _ _ h => h) hS (Or.inr ⟨by rfl, rfl⟩) ?hrb9
        simp only [List.getElem_toArray, List.getElem_cons_succ, List.getElem_cons_zero, Act.put, List.setIfInBounds_toArray, List.set_cons_zero, List.set_cons_succ]
        refine wpAnyL_take (i := 10) (v := undef) rfl (by kernel_rfl) (by kernel_rfl) (by kernel_rfl) (by kernel_rfl) (by rfl) (fun _ _ _ h => h) hS (Or.inr ⟨by rfl, rfl⟩) ?hrb10
        simp only [List.getElem_toArray, List.getElem_cons_succ, List.getElem_cons_zero, Act.put, List.setIfInBounds_toArray, List.set_cons_zero, List.set_cons_succ]
        refine wpAnyL_take (i := 11) (v := undef) rfl (by kernel_rfl) (by kernel_rfl) (by kernel_rfl) (by kernel_rfl) (by rfl) (fun _ _ _ h => h) hS (Or.inr ⟨by rfl, rfl⟩) ?hrb11
        simp only [List.getElem_toArray, List.getElem_cons_succ, List.getElem_cons_zero, Act.put, List.setIfInBounds_toArray, List.set_cons_zero, List.set_cons_succ]
        refine wpAnyL_take (i := 12) (v := undef) rfl (by kernel_rfl) (by kernel_rfl) (by kernel_rfl) (by kernel_rfl) (by rfl) (fun _ _ _ h => h) hS (Or.inr ⟨by rfl, rfl⟩) ?hrb12
        simp only [List.getElem_toArray, List.getElem_cons_succ, List.getElem_cons_zero, Act.put, List.setIfInBounds_toArray, List.set_cons_zero, List.set_cons_succ]
        refine wpAnyL_take (i := 13) (v := undef) rfl (by kernel_rfl) (by kernel_rfl) (by kernel_rfl) (by kernel_rfl) (by rfl) (fun _ _ _ h => h) hS (Or.inr ⟨by rfl, rfl⟩) ?hrb13
        simp only [List.getElem_toArray, List.getElem_cons_succ, List.getElem_cons_zero, Act.put, List.setIfInBounds_toArray, List.set_cons_zero, List.set_cons_succ]
        refine wpAnyL_take (i := 14) (v := undef) rfl (by kernel_rfl) (by kernel_rfl) (by kernel_rfl) (by kernel_rfl) (by rfl) (fun _ _ _ h => h) hS (Or.inr ⟨by rfl, rfl⟩) ?hrb14
        simp only [List.getElem_toArray, List.getElem_cons_succ, List.getElem_cons_zero, Act.put, List.setIfInBounds_toArray, List.set_cons_zero, List.set_cons_succ]
        refine wpAnyL_take (i := 15) (v := undef) rfl (by kernel_rfl) (by kernel_rfl) (by kernel_rfl) (by kernel_rfl) (by rfl) (fun _ _ _ h => h) hS (Or.inr ⟨by rfl, rfl⟩) ?hrb15
        simp only [List.getElem_toArray, List.getElem_cons_succ, List.getElem_cons_zero, Act.put, List.setIfInBounds_toArray, List.set_cons_zero, List.set_cons_succ]
        refine wpAnyL_take (i := 16) (v := undef) rfl (by kernel_rfl) (by kernel_rfl) (by kernel_rfl) (by kernel_rfl) (by rfl) (fun _ _ _ h => h) hS (Or.inr ⟨by rfl, rfl⟩) ?hrb16
        simp only [List.getElem_toArray, List.getElem_cons_succ, List.getElem_cons_zero, Act.put, List.setIfInBounds_toArray, List.set_cons_zero, List.set_cons_succ]
        refine wpAnyL_take (i := 17) (v := undef) rfl (by kernel_rfl) (by kernel_rfl) (by kernel_rfl) (by kernel_rfl) (by rfl) (fun _ _ _ h => h) hS (Or.inr ⟨by rfl, rfl⟩) ?hrb17
        simp only [List.getElem_toArray, List.getElem_cons_succ, List.getElem_cons_zero, Act.put, List.setIfInBounds_toArray, List.set_cons_zero, List.set_cons_succ]
        refine wpAnyL_take (i := 18) (v := undef) rfl (by kernel_rfl) (by kernel_rfl) (by kernel_rfl) (by kernel_rfl) (by rfl) (fun _ _ _ h => h) hS (Or.inr ⟨by rfl, rfl⟩) ?hrb18
        simp only [List.getElem_toArray, List.getElem_cons_succ, List.getElem_cons_zero, Act.put, List.setIfInBounds_toArray, List.set_cons_zero, List.set_cons_succ]
        refine wpAnyL_take (i := 19) (v := undef) rfl (by kernel_rfl) (by kernel_rfl) (by kernel_rfl) (by kernel_rfl) (by rfl) (fun _ _ _ h => h) hS (Or.inr ⟨by rfl, rfl⟩) ?hrb19
        simp only [List.getElem_toArray, List.getElem_cons_succ, List.getElem_cons_zero, Act.put, List.setIfInBounds_toArray, List.set_cons_zero, List.set_cons_succ]
        refine wpAnyL_take (i := 20) (v := undef) rfl (by kernel_rfl) (by kernel_rfl) (by kernel_rfl) (by kernel_rfl) (by rfl) (fun _ _ _ h => h) hS (Or.inr ⟨by rfl, rfl⟩) ?hrb20
        simp only [List.getElem_toArray, List.getElem_cons_succ, List.getElem_cons_zero, Act.put, List.setIfInBounds_toArray, List.set_cons_zero, List.set_cons_succ]
        refine wpAnyL_take (i := 21) (v := .bool false) rfl (by kernel_rfl) (by kernel_rfl) (by kernel_rfl) (by kernel_rfl) (by rfl) (fun _ _ _ h => h) hS (Or.inl ⟨by rfl, ?hyb21⟩) ?hrb21
        case hyb21 => (intro w hSw; (try dsimp only at hSw); go_simp; (try rfl))
        simp only [List.getElem_toArray, List.getElem_cons_succ, List.getElem_cons_zero, Act.put, List.setIfInBounds_toArray, List.set_cons_zero, List.set_cons_succ]
        refine wpAnyL_done (by kernel_rfl) ?_
        try simp only [Act.put]
        have HBq : Hid (Below w10.heap.size w10 wr.drew) := hB.out.drew
        clear hS
        go_wp2_with fail
        go_roundw
        case rel => exact ⟨k + 1, best, by omega, rfl, by go_num, HN, HBq⟩
        case measure => simp [intOf]; omega
    · obtain rfl : k = gl.length := by omega
      have hnk : ¬ (gl.length : Int) < (gl.length : Int) := by omega
      have D11 := Lib.hid (D10.out.below hB.out)
      have HW11 := Lib.hid (HW10.out.trans (hB.out.mono HW10.out.size))
      have hnc := D11.out.ncells
      have hcc := D11.out.ccells
      obtain ⟨z0, z1, z2⟩ := hnc
      obtain ⟨x0, x1, x2, x3, x4, x5⟩ := hcc
      go_wp2_with fail
      refine (wayok_any n n_tA n_sA n_tc n_sc c _ c_bA c_hA c_gc c_bc c_hc fr ga ds wr D11.out.nreads D11.out.creads HA.out).mono ?_
      rintro e w12 ⟨wA, wl, wc, km, v, rfl, hb12, _, hno, hyes⟩
      have D12 := Lib.hid (D11.out.below hb12)
      have HW12 := Lib.hid (HW11.out.trans (hb12.mono HW11.out.size))
      have HB12 := Lib.hid (hB.out.trans (hb12.mono hB.out.size))
      clear z0 z1 z2 x0 x1 x2 x3 x4 x5
      clear hb12 HW11 HW10 D11 hnk
      rcases hbest.out with ⟨rfl, hbn⟩ | ⟨b2, x, rfl, hb2, hx, hxe, hmin⟩
      · obtain ⟨rfl, rfl, rfl⟩ := hno rfl (HBN.out hbn)
        clear hno hyes hbn hbest
        go_wp2_with (go_at_call 25; refine (rolling_any _).mono ?_; rintro e w13 ⟨rfl, hb13⟩)
        go_ret
        exact ⟨rfl, HW12.out.trans (hb13.mono HW12.out.size)⟩
      · obtain ⟨rfl, rfl, rfl, hI⟩ := hyes _ rfl (HBS.out x (List.mem_of_getElem? hx) hxe hmin)
        have hwk := HWK.out x (List.mem_of_getElem? hx)
        have HI := Lib.hid hI
        have HV := Lib.hid (HPR.out hwk.run)
        have hx11 : (Pl.ints x).length ≤ 1000 := by rw [ints_len]; have := hwk.len; omega
        obtain ⟨g0, hg0⟩ : ∃ g0, lA = some ⟨g0, 0, none⟩ := by
          obtain ⟨b, _, _, hA, _⟩ := HOW.out.pick (k := b2) (x := toWk n c (fr, ga) x) (by rw [List.getElem?_map, hx]; rfl)
          exact ⟨b, hA⟩
        subst hg0
        obtain ⟨A2, c2, hl2, hp2⟩ := wks_at HOW.out (k := b2) (x := toWk n c (fr, ga) x) (by rw [List.getElem?_map, hx]; rfl)
        have HP2 : Hid (∀ W, Below w10.heap.size w10 W → (W.cell? ⟨g0, b2 * 5, none⟩ = some (.slice A2 (Pl.ints x).length c2) ∧ W.cell? ⟨g0, b2 * 5 + 3, none⟩ = some (.int .i64 (Pl.kmOf n x)) ∧ W.cell? ⟨g0, b2 * 5 + 4, none⟩ = some (.int .i64 (Pl.chOf (Pl.run n c []) (fr, ga) x))) ∧ Ints W W.heap.size A2 (Pl.ints x)) := fun W hW => ⟨⟨(hp2 W hW).1.1, (hp2 W hW).1.2.2.2.1, (hp2 W hW).1.2.2.2.2⟩, (hp2 W hW).2⟩
        have hb2i : (b2 : Int) < (gl.length : Int) := by omega
        have hbn0 : ¬ (b2 : Int) < 0 := by omega
        have hbn1 : decide ((b2 : Int) < 0) = false := decide_eq_false hbn0
        clear hno hyes hbest hmin hI hwk hp2 hl2 hx hxe
        simp only [Pl.tripOf] at HI ⊢
        generalize Pl.kmOf n x = km at HP2 ⊢
        generalize Pl.chOf (Pl.run n c []) (fr, ga) x = ch at HP2 HV
        generalize Pl.ints x = wy at *
        have hnc := D12.out.ncells
        have hcc := D12.out.ccells
        obtain ⟨z0, z1, z2⟩ := hnc
        obtain ⟨x0, x1, x2, x3, x4, x5⟩ := hcc
        go_wp2_with fail
        refine (changes_any n n_tA n_sA n_tc n_sc c _ c_bA c_hA c_gc c_bc c_hc fr ga wA wc wy _ D12.out.nreads D12.out.creads HI.out (by omega)).mono ?_
        rintro e w13 ⟨rfl, hb13⟩
        rw [HV.out]
        have HW13 := Lib.hid (HW12.out.trans (hb13.mono HW12.out.size))
        have HI13 := Lib.hid ((HI.out.below hb13).more hb13.size)
        obtain ⟨⟨p0, p3, p4⟩, hp⟩ := HP2.out w13 (HB12.out.trans (hb13.mono HB12.out.size))
        have HIP := Lib.hid hp
        clear z0 z1 z2 x0 x1 x2 x3 x4 x5
        clear hb13 HW12 D12 HI HV hp
        go_wp2_with (first
          | (go_at_call 24; refine (equal_any wA A2 wc c2 wy wy _ HI13.out HIP.out hx11 hx11).mono ?_; rintro e w14 ⟨rfl, hb14⟩; have HW14 := Lib.hid (HW13.out.trans (hb14.mono HW13.out.size)); clear hb14; simp only [decide_true])
          | (go_at_call 25; refine (rolling_any _).mono ?_; rintro e w15 ⟨rfl, hb15⟩; have HW15 := Lib.hid (HW14.out.trans (hb15.mono HW14.out.size)); clear hb15))
        go_ret
        exact ⟨rfl, HW15.out⟩
end Go.Proofs.Ytpbjpochjagicaa
