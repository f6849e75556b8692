/- Walks: LineBack (by gen_law7.py). -/
import Derived.Test.YtpbjpochjagicaaW52
import Derived.Test.YtpbjpochjagicaaW51
import Derived.Test.YtpbjpochjagicaaW34
import Derived.Test.YtpbjpochjagicaaBk
import Derived.BigQuiet
namespace Go.Proofs.Ytpbjpochjagicaa
open Go.RowKit

/-- What Way and Changes told of a way, and of the way turned about. -/
structure Turned (n : Pl.Nt) (c : Pl.Cch) (fr ga ds : Int) (k0 kl : Nat) (l : List Nat) (ch ch1 km : Int) : Prop where
  lines : ∀ x ∈ Pl.ints (k0 :: l), 0 ≤ x ∧ x < (n.tracks.length : Int)
  there : changesVal n c fr ga (Pl.ints (k0 :: l)) = .tuple #[.int .i64 ch, .int .i64 0]
  gl : (n.tracks.getD kl default).gauge ∈ c.gauges
  back : changesVal n c ds (n.tracks.getD kl default).gauge (Pl.ints (k0 :: l)).reverse = .tuple #[.int .i64 ch1, .int .i64 0]
  less : ∃ t, Pl.way n c ds (n.tracks.getD kl default).gauge fr = some t ∧ t.km ≤ km
  first : ch = (if (n.tracks.getD k0 default).gauge ≠ ga then 1 else 0) + ch1
  kk0 : k0 < n.tracks.length
  kkl : kl < n.tracks.length
  last : (Pl.ints (k0 :: l)).reverse.head? = some (kl : Int)
  big : 0 ≤ ch1 ∧ ch1 ≤ l.length
theorem ch_bounds {n : Pl.Nt} {c : Pl.Cch} : ∀ (l : List Nat) (p : Pl.Place), 0 ≤ Pl.chOf (Pl.run n c []) p l ∧ Pl.chOf (Pl.run n c []) p l ≤ l.length
  | [], _ => by simp [Pl.chOf]
  | k :: l, p => by
    have := ch_bounds (n := n) (c := c) l (Pl.run n c [] p k).1
    simp only [Pl.chOf, List.length_cons]
    split <;> omega
theorem turned_of {n : Pl.Nt} {c : Pl.Cch} {fr ga ds : Int} {k0 : Nat} {l : List Nat} (hA : Pl.asked n c fr ga ds = 0) (hr : Pl.RunOk n.tracks.length (Pl.run n c []) (fr, ga) (k0 :: l)) (he : (Pl.endOf (Pl.run n c []) (fr, ga) (k0 :: l)).1 = ds)
    (hpr : ∀ {fr gg : Int} {way : List Int}, 0 ≤ fr → fr ≤ n.stops - 1 → gg ∈ c.gauges → (∀ x ∈ way, 0 ≤ x ∧ x < (n.tracks.length : Int)) → Pl.printed n c fr gg way = 0) :
    ∃ kl ch1, Turned n c fr ga ds k0 kl l (Pl.chOf (Pl.run n c []) (fr, ga) (k0 :: l)) ch1 (Pl.kmOf n (k0 :: l)) ∧ Pl.asked n c ds (n.tracks.getD kl default).gauge fr = 0 := by
  obtain ⟨hc, hf, f0, f1, hg, d0, d1⟩ := asked_good hA
  obtain ⟨pre, kl, hpk⟩ : ∃ pre kl, k0 :: l = pre ++ [kl] := ⟨_, _, (List.dropLast_concat_getLast (List.cons_ne_nil k0 l)).symm⟩
  have hne : ∀ i, i < n.tracks.length → (n.tracks.getD i default).a ≠ (n.tracks.getD i default).b := fun i hi => (trk_in hc hi).ab
  obtain ⟨b1, b2, b3⟩ := Pl.back_run hne l (fr, ga) k0 hr
  have heg := Pl.end_gauge (n := n) (c := c) pre (fr, ga) kl (by rw [← hpk]; exact hr)
  rw [← hpk] at heg
  have hE : Pl.endOf (Pl.run n c []) (fr, ga) (k0 :: l) = (ds, (n.tracks.getD kl default).gauge) := Prod.ext he heg.1
  rw [hE] at b1 b2 b3
  have hgl := Pl.barred_gauge heg.2
  have hlin := run_lines hr
  have hlin2 : ∀ x ∈ Pl.ints (k0 :: l).reverse, 0 ≤ x ∧ x < (n.tracks.length : Int) := run_lines b1
  have hkl : kl < n.tracks.length := by
    have := hlin (kl : Int) (by rw [hpk]; simp [Pl.ints])
    omega
  have hA2 : Pl.asked n c ds (n.tracks.getD kl default).gauge fr = 0 := by
    have h1 : Pl.question n c ds (n.tracks.getD kl default).gauge = 0 := by
      have ho : Pl.out ds 0 (n.stops - 1) = false := by simp [Pl.out]; omega
      simp [Pl.question, Pl.both, hc, hf, ho]
      exact hgl
    have ho : Pl.out fr 0 (n.stops - 1) = false := by simp [Pl.out]; omega
    rw [Pl.asked, h1, ho]
    simp
  refine ⟨kl, _, ⟨hlin, changes_run (hpr f0 f1 hg hlin) hr, hgl, ?_, ?_, Pl.first_change hr, hr.1, hkl, ?_, ch_bounds l _⟩, hA2⟩
  · rw [← Pl.ints_reverse, changes_run (hpr d0 d1 hgl hlin2) b1, b3]
  · obtain ⟨t, h1, h2⟩ := Pl.way_le places (asked_in hA2) places_length (km_pos hc) b1 (by rw [b2])
    exact ⟨t, h1, by rw [Pl.km_reverse] at h2; exact h2⟩
  · rw [hpk, ← Pl.ints_reverse]
    simp [Pl.ints]

set_option maxRecDepth 20000 in
set_option maxHeartbeats 8000000 in
theorem law7 (A : Option Addr) (cp : Nat) (xs : List Int) (w : World) (hx : Ints w w.heap.size A xs) (hl : xs.length ≤ 9223372036854775807) :
    Calls Try.prog 7 #[.slice A xs.length cp] w fun e w' => e = .returned (.bool true) ∧ Below w.heap.size w w' := by
  go_enter Try.func7, Try.ntmps7
  go_wp2_with fail
  refine (newBag_any A cp xs w hx hl).mono ?_
  rintro e w1 ⟨g, rfl, hgw, hb1, hB1⟩
  have HB1 := Lib.hid hB1
  have hg1 := hb1.lt
  go_wp2_with fail
  refine (netOf_any g 5 7 w1 hb1 (by omega) (by omega) (by omega) (by omega)).mono ?_
  rintro e w2 ⟨n, n_tA, n_sA, n_tc, n_sc, rfl, htr, hsh, hn, k12⟩
  have Htr := Lib.hid htr
  have Hsh := Lib.hid hsh
  have Hn := Lib.hid hn
  have K12 := Lib.hid k12
  have b2 := k12.bag
  clear htr hsh hn k12 hB1 hx
  go_wp2_with fail
  refine (coach_any g w2 b2).mono ?_
  rintro e w3 ⟨c, c_gA, c_bA, c_hA, c_gc, c_bc, c_hc, rfl, hga, hbr, hhe, hc, k23⟩
  have Hga := Lib.hid hga
  have Hbr := Lib.hid hbr
  have Hhe := Lib.hid hhe
  have Hc := Lib.hid hc
  have K23 := Lib.hid k23
  clear hga hbr hhe hc k23
  go_wp2_with fail
  have hNb := blk_alloc (heap_alloc_new w3 (.cells #[.int .i64 n.stops, .slice n_tA n.tracks.length n_tc, .slice n_sA n.shops.length n_sc] 27)) (.cells #[.slice c_gA c.gauges.length c_gc, .int .i64 c.size, .int .i64 c.load, .slice c_bA c.brakes.length c_bc, .slice c_hA c.heats.length c_hc, .bool c.hooks] 30)
  have hCb : ((w3.alloc (.cells #[.int .i64 n.stops, .slice n_tA n.tracks.length n_tc, .slice n_sA n.shops.length n_sc] 27)).alloc (.cells #[.slice c_gA c.gauges.length c_gc, .int .i64 c.size, .int .i64 c.load, .slice c_bA c.brakes.length c_bc, .slice c_hA c.heats.length c_hc, .bool c.hooks] 30)).heap[w3.heap.size + 1]? = some (.cells #[.slice c_gA c.gauges.length c_gc, .int .i64 c.size, .int .i64 c.load, .slice c_bA c.brakes.length c_bc, .slice c_hA c.heats.length c_hc, .bool c.hooks] 30 (0, 0)) := by
    have := heap_alloc_new (w3.alloc (.cells #[.int .i64 n.stops, .slice n_tA n.tracks.length n_tc, .slice n_sA n.shops.length n_sc] 27)) (.cells #[.slice c_gA c.gauges.length c_gc, .int .i64 c.size, .int .i64 c.load, .slice c_bA c.brakes.length c_bc, .slice c_hA c.heats.length c_hc, .bool c.hooks] 30)
    simpa using this
  have hb34 : Below w3.heap.size w3 ((w3.alloc (.cells #[.int .i64 n.stops, .slice n_tA n.tracks.length n_tc, .slice n_sA n.shops.length n_sc] 27)).alloc (.cells #[.slice c_gA c.gauges.length c_gc, .int .i64 c.size, .int .i64 c.load, .slice c_bA c.brakes.length c_bc, .slice c_hA c.heats.length c_hc, .bool c.hooks] 30)) := ((Below.refl _ _).alloc (Nat.le_refl _) _).alloc (by simp) _
  have hD := dealt_of n n_tA n_sA n_tc n_sc c c_gA c_bA c_hA c_gc c_bc c_hc hg1 Htr.out Hsh.out Hn.out (by omega) (by omega) K12.out Hga.out Hbr.out Hhe.out Hc.out K23.out hb34 hNb hCb (Nat.le_refl _) (by omega)
  have hW4 : Below w.heap.size w ((w3.alloc (.cells #[.int .i64 n.stops, .slice n_tA n.tracks.length n_tc, .slice n_sA n.shops.length n_sc] 27)).alloc (.cells #[.slice c_gA c.gauges.length c_gc, .int .i64 c.size, .int .i64 c.load, .slice c_bA c.brakes.length c_bc, .slice c_hA c.heats.length c_hc, .bool c.hooks] 30)) := by
    have hs12 := K12.out.size
    have hs23 := K23.out.size
    have hs1 := HB1.out.size
    exact ((HB1.out.trans (K12.out.below hgw hg1)).trans (K23.out.below hgw (by omega))).trans (hb34.mono (by omega))
  clear Htr Hsh Hn K12 Hga Hbr Hhe Hc K23 hb34 hNb hCb b2 HB1
  generalize hQ : w3.heap.size + 1 = Q at hD ⊢
  generalize (w3.alloc (.cells #[.int .i64 n.stops, .slice n_tA n.tracks.length n_tc, .slice n_sA n.shops.length n_sc] 27)).alloc (.cells #[.slice c_gA c.gauges.length c_gc, .int .i64 c.size, .int .i64 c.load, .slice c_bA c.brakes.length c_bc, .slice c_hA c.heats.length c_hc, .bool c.hooks] 30) = w4 at hD hW4 ⊢
  generalize w3.heap.size = P at hD ⊢
  clear hQ
  have HW4 := Lib.hid hW4
  clear hW4
  obtain ⟨gb, hgA, hgb⟩ := hD.gauges
  subst hgA
  have D0 := Lib.hid hD
  have hst1 := hD.st
  have hst6 := hD.st6
  have hng := hD.ng
  have hlg := hD.lg
  have hP := lt_of_block hD.b4
  have hQ := lt_of_block hD.b5
  have hS : w4.drew.cell? ⟨P, 0, none⟩ = some (.int .i64 n.stops) ∧ w4.drew.cell? ⟨Q, 0, none⟩ = some (.slice (some ⟨gb, 0, none⟩) c.gauges.length c_gc) := ⟨hD.drew.ncells.1, hD.drew.ccells.1⟩
  have HW := Lib.hid (IntWalk.i64_in (n.stops - 1) ⟨by omega, by omega⟩)
  clear hD
  go_region_held3 (fun w' => w'.cell? ⟨P, 0, none⟩ = some (.int .i64 n.stops) ∧ w'.cell? ⟨Q, 0, none⟩ = some (.slice (some ⟨gb, 0, none⟩) c.gauges.length c_gc))
    (first | go_keep | exact hS)
    (first
      | (go_at_call 18; rw [HW.out]; refine (up_any g _ _ D0.out.drew.bag (by omega)).mono ?_; rintro e w5 ⟨fr, rfl, hf0, hf1, hB5⟩; have D5 := Lib.hid (D0.out.drew.bagged hB5); have HB5 := Lib.hid hB5; clear hB5; have hS := And.intro D5.out.ncells.1 D5.out.ccells.1)
      | (go_at_call 19; refine (one_any g gb 0 _ c.gauges _ D5.out.bag D5.out.ga.ints hgb hng (by omega)).mono ?_; rintro e w6 ⟨ga, rfl, hgm, hB6⟩; have D6 := Lib.hid (D5.out.bagged hB6); have HB6 := Lib.hid hB6; clear hB6; have hS := And.intro D6.out.ncells.1 D6.out.ccells.1)
      | (go_at_call 18; refine (up_any g _ _ D6.out.bag (by omega)).mono ?_; rintro e w7 ⟨ds, rfl, hd0, hd1, hB7⟩; have D7 := Lib.hid (D6.out.bagged hB7); have HB7 := Lib.hid hB7; clear hB7; have hS := And.intro D7.out.ncells.1 D7.out.ccells.1))
  have HW7 := Lib.hid (HW4.out.trans ((((((Kb.refl D0.out.bag).drew.bagged HB5.out).bagged HB6.out)).bagged HB7.out).below hgw D0.out.bag.lt))
  clear HW4 HB5 HB6 HB7 hS
  have HA := Lib.hid (D7.out.asked hf0 (by omega) hgm hd0 (by omega))
  have hnc := D7.out.ncells
  have hcc := D7.out.ccells
  obtain ⟨z0, z1, z2⟩ := hnc
  obtain ⟨x0, x1, x2, x3, x4, x5⟩ := hcc
  go_wp2_with fail
  refine (wayok_any n n_tA n_sA n_tc n_sc c _ c_bA c_hA c_gc c_bc c_hc fr ga ds w7 D7.out.nreads D7.out.creads HA.out).mono ?_
  rintro e w8 ⟨wA, wl, wc, km, v, rfl, hb8, _, hno, hyes⟩
  have D8 := Lib.hid (D7.out.below hb8)
  have HW8 := Lib.hid (HW7.out.trans (hb8.mono HW7.out.size))
  clear z0 z1 z2 x0 x1 x2 x3 x4 x5
  clear hb8 HW7
  rcases hway : Pl.way n c fr ga ds with _ | t
  · obtain ⟨rfl, rfl, rfl⟩ := hno rfl hway
    clear hno hyes hway
    go_wp2_with (go_at_call 25; refine (rolling_any _).mono ?_; rintro e w9 ⟨rfl, hb9⟩)
    go_ret
    exact ⟨rfl, HW8.out.trans (hb9.mono HW8.out.size)⟩
  · obtain ⟨rfl, rfl, rfl, hI⟩ := hyes t rfl hway
    clear hno hyes
    obtain ⟨l, hl30, hrun, hend, hwy, hkm, hch⟩ := Pl.way_run hway
    clear hway hch
    obtain ⟨tw, tkm, tch⟩ := t
    simp only at hwy hkm hI ⊢
    subst hwy hkm
    have HI := Lib.hid hI
    have hll := Pl.ints_length l
    clear hI
    have hlt8 := D8.out.t8
    have HPR : Hid (∀ {fr gg : Int} {way : List Int}, 0 ≤ fr → fr ≤ n.stops - 1 → gg ∈ c.gauges → (∀ x ∈ way, 0 ≤ x ∧ x < (n.tracks.length : Int)) → Pl.printed n c fr gg way = 0) := fun a b c d => D8.out.printed a b c d
    cases l with
    | nil =>
      obtain rfl : fr = ds := hend
      have HV := Lib.hid (changes_run (HPR.out hf0 (by omega) hgm (by simp [Pl.ints])) hrun)
      clear hll hrun
      simp only [Pl.ints, List.map_nil, List.length_nil, Pl.kmOf] at HI HV ⊢
      have hnc := D8.out.ncells
      have hcc := D8.out.ccells
      obtain ⟨z0, z1, z2⟩ := hnc
      obtain ⟨x0, x1, x2, x3, x4, x5⟩ := hcc
      go_wp2_with fail
      refine (lines_yes n n_tA n_sA n_tc n_sc wA wc [] _ HI.out (by simp) (by simp) (by omega)).mono ?_
      rintro e w9 ⟨rfl, hb9⟩
      have D9 := Lib.hid (D8.out.below hb9)
      have HW9 := Lib.hid (HW8.out.trans (hb9.mono HW8.out.size))
      have HI9 := Lib.hid ((HI.out.below hb9).more hb9.size)
      clear z0 z1 z2 x0 x1 x2 x3 x4 x5
      clear hb9 HW8 HI
      have hnc := D9.out.ncells
      have hcc := D9.out.ccells
      obtain ⟨z0, z1, z2⟩ := hnc
      obtain ⟨x0, x1, x2, x3, x4, x5⟩ := hcc
      go_wp2_with fail
      refine (changes_any n n_tA n_sA n_tc n_sc c _ c_bA c_hA c_gc c_bc c_hc fr ga wA wc [] _ D9.out.nreads D9.out.creads HI9.out (by simp)).mono ?_
      rintro e w10 ⟨rfl, hb10⟩
      rw [HV.out]
      simp only [Pl.chOf]
      have HW10 := Lib.hid (HW9.out.trans (hb10.mono HW9.out.size))
      clear hb10
      go_wp2_with (go_at_call 25; refine (rolling_any _).mono ?_; rintro e w11 ⟨rfl, hb11⟩)
      go_ret
      exact ⟨rfl, HW10.out.trans (hb11.mono HW10.out.size)⟩
    | cons k0 l =>
      obtain ⟨kl, ch1, HT0, hA2⟩ := turned_of HA.out hrun hend HPR.out
      have HT := Lib.hid HT0
      have HA2 := Lib.hid hA2
      have hw0 : (Pl.ints (k0 :: l))[0]? = some (k0 : Int) := by simp [Pl.ints]
      have hwl : (Pl.ints (k0 :: l)).reverse[0]? = some (kl : Int) := by rw [← List.head?_eq_getElem?]; exact HT0.last
      have hlen0 : 0 < (Pl.ints (k0 :: l)).length := by simp [Pl.ints]
      have hlen1 : (Pl.ints (k0 :: l)).length ≤ 30 := by rw [hll]; omega
      have hlin := Lib.hid HT0.lines
      have hthere := Lib.hid HT0.there
      have hback := Lib.hid HT0.back
      obtain ⟨t2, ht2, hkm2⟩ := HT0.less
      have Ht2 := Lib.hid ht2
      have hfirst := Lib.hid HT0.first
      have hbig0 := HT0.big.1
      have hbig1 : ch1 ≤ 30 := by have := HT0.big.2; simp only [List.length_cons] at hl30; omega
      have hk0 := HT0.kk0
      have hkl := HT0.kkl
      have Hgl := Lib.hid HT0.gl
      clear HT0 HT hA2 ht2 hll hrun hend HPR hl30
      generalize Pl.kmOf n (k0 :: l) = km at hkm2 ⊢
      generalize Pl.chOf (Pl.run n c []) (fr, ga) (k0 :: l) = ch at hthere hfirst
      generalize Pl.ints (k0 :: l) = wy at *
      have hnc := D8.out.ncells
      have hcc := D8.out.ccells
      obtain ⟨z0, z1, z2⟩ := hnc
      obtain ⟨x0, x1, x2, x3, x4, x5⟩ := hcc
      go_wp2_with fail
      refine (lines_yes n n_tA n_sA n_tc n_sc wA wc wy _ HI.out (by omega) hlin.out (by omega)).mono ?_
      rintro e w9 ⟨rfl, hb9⟩
      have D9 := Lib.hid (D8.out.below hb9)
      have HW9 := Lib.hid (HW8.out.trans (hb9.mono HW8.out.size))
      have HI9 := Lib.hid ((HI.out.below hb9).more hb9.size)
      clear z0 z1 z2 x0 x1 x2 x3 x4 x5
      clear hb9 HW8 HI D8
      have hnc := D9.out.ncells
      have hcc := D9.out.ccells
      obtain ⟨z0, z1, z2⟩ := hnc
      obtain ⟨x0, x1, x2, x3, x4, x5⟩ := hcc
      go_wp2_with fail
      refine (changes_any n n_tA n_sA n_tc n_sc c _ c_bA c_hA c_gc c_bc c_hc fr ga wA wc wy _ D9.out.nreads D9.out.creads HI9.out (by omega)).mono ?_
      rintro e w10 ⟨rfl, hb10⟩
      rw [hthere.out]
      have D10 := Lib.hid (D9.out.below hb10)
      have HW10 := Lib.hid (HW9.out.trans (hb10.mono HW9.out.size))
      have HI10 := Lib.hid ((HI9.out.below hb10).more hb10.size)
      clear z0 z1 z2 x0 x1 x2 x3 x4 x5
      clear hb10 HW9 HI9 D9 hthere
      have hlz : ((wy.length : Int) == 0) = false := by rw [beq_eq_false_iff_ne]; omega
      go_wp2_with fail
      clear hlz
      go_loopw [14, 15] (fun bv iv wr => ∃ (bA : Option Addr) (cp2 m : Nat), m ≤ wy.length ∧ bv = .slice bA (wy.drop m).reverse.length cp2 ∧ iv = .int .i64 ((m : Int) - 1) ∧ Hid (OwnInts wr w10.heap.size bA cp2 (wy.drop m).reverse) ∧ Hid (Below w10.heap.size w10 wr)) (fun _ i _ => (intOf i + 1).toNat)
      case atStart => exact ⟨none, 0, wy.length, Nat.le_refl _, by simp, rfl, (by show OwnInts _ _ _ _ _; rw [List.drop_length]; exact OwnInts.nil _ _), Below.refl _ _⟩
      case round =>
        obtain ⟨bA, cp2, m, hm, rfl, rfl, hO, hB⟩ := hrel
        have hsr : w10.heap.size ≤ wr.heap.size := hB.out.size
        cases m with
        | succ m =>
          have hrv : (wy.drop m).reverse = (wy.drop (m + 1)).reverse ++ [wy[m]] := by rw [List.drop_eq_getElem_cons (by omega), List.reverse_cons]
          obtain ⟨bw, ow, hwA, hbw, hcw⟩ := HI10.out m wy[m] (List.getElem?_eq_getElem (by omega))
          subst hwA
          have c1 := (hB.out.cell (p := ⟨bw, ow + m, none⟩) hbw).trans hcw
          have hdl : (wy.drop (m + 1)).reverse.length ≤ 30 := by rw [List.length_reverse, List.length_drop]; omega
          have k1 : (m : Int) < (wy.length : Int) := by omega
          have HRV := Lib.hid hrv
          rw [show (((m + 1 : Nat) : Int) - 1) = (m : Int) by omega]
          generalize wy[m] = x at c1 HRV
          generalize (wy.drop (m + 1)).reverse = rv at *
          clear hrv hcw
          go_wp2_with (at_builtin; refine wpl_app_ints rfl (.tmp 110) (.tmp 115) 22 rfl w10.heap.size Try.underlying22 int_info bA cp2 rv rfl (own_alloc hO.out _) (wr.heap.size + 1) (some ⟨wr.heap.size, 0, none⟩) 1 [x] rfl (ints_one _ _ _ (by simp) (by omega)) (by simp; omega) (by simp; omega) ?_; intro A2 c2 w14 hown4 hg4 hat4; have hfar : Below w10.heap.size w10 w14 := hB.out.trans (((Below.refl _ _).alloc hsr _).grown hg4 (by simp; omega) (own_from hO.out)); have Hfar := Lib.hid hfar; have Hown4 := Lib.hid hown4; clear hfar hown4 hg4 hat4)
          go_roundw
          case rel => exact ⟨A2, c2, m, by omega, (by rw [HRV.out]; simp), rfl, (by show OwnInts _ _ _ _ _; rw [HRV.out]; exact Hown4.out), Hfar⟩
          case measure => simp [intOf]
        | zero =>
          simp only [List.drop_zero] at hO ⊢
          rw [show (((0 : Nat) : Int) - 1) = -1 by rfl]
          have Dr := Lib.hid (D10.out.below hB.out)
          have HWr := Lib.hid (HW10.out.trans (hB.out.mono HW10.out.size))
          have HIr := Lib.hid ((HI10.out.below hB.out).more hsr)
          have HOr := Lib.hid hO.out.ints
          clear HI10 D10 HW10 hO hB
          obtain ⟨bt, ot, htA, hbt, hct⟩ := Dr.out.track hk0
          obtain ⟨bt', ot', htA', hbt', hct'⟩ := Dr.out.track hkl
          subst htA
          injection htA' with e1
          injection e1 with e1 e2 _
          subst e1 e2
          have c3 := (trk_cells hct).2.2.2.1
          have d3 := (trk_cells hct').2.2.2.1
          obtain ⟨bw, ow, hwA, hbw, hcw⟩ := HIr.out 0 _ hw0
          obtain ⟨bb, ob, hbA, hbb, hcb⟩ := HOr.out 0 _ hwl
          subst hwA hbA
          rw [Nat.add_zero] at hcw hcb
          have j0 : (0 : Int) < (wy.length : Int) := by omega
          have j1 : 0 < wy.reverse.length := by rw [List.length_reverse]; exact hlen0
          have j2 : (0 : Int) < (wy.reverse.length : Int) := by omega
          have j3 : wy.reverse.length ≤ 30 := by rw [List.length_reverse]; exact hlen1
          have j4 : (k0 : Int) < (n.tracks.length : Int) := by omega
          have j5 : (kl : Int) < (n.tracks.length : Int) := by omega
          clear hct hct' hw0 hwl hlin hbt'
          generalize (n.tracks.getD k0 default).gauge = g0 at *
          generalize (n.tracks.getD kl default).gauge = gl at *
          generalize wy.reverse = rv at *
          have hnc := Dr.out.ncells
          have hcc := Dr.out.ccells
          obtain ⟨z0, z1, z2⟩ := hnc
          obtain ⟨x0, x1, x2, x3, x4, x5⟩ := hcc
          go_wp2_with fail
          go_quiet (fail)
          by_cases hfg : g0 = ga
          · subst hfg
            have hce : ch = ch1 := by rw [hfirst.out]; simp
            subst hce
            go_wp2_with fail
            clear hfirst z0 z1 z2 x0 x1 x2 x3 x4 x5 c3 d3 hcw hcb
            generalize hwq : wr.drewN _ = wq
            have hbq : Below wr.heap.size wr wq := by rw [← hwq]; exact below_drewN (Below.refl _ _) _
            have Dq := Lib.hid (Dr.out.below hbq)
            have HWq := Lib.hid (HWr.out.trans (hbq.mono HWr.out.size))
            have HOq := Lib.hid ((HOr.out.below hbq).more hbq.size)
            clear hbq hwq HWr HOr Dr
            have hnc := Dq.out.ncells
            have hcc := Dq.out.ccells
            obtain ⟨z0, z1, z2⟩ := hnc
            obtain ⟨x0, x1, x2, x3, x4, x5⟩ := hcc
            go_wp2_with fail
            refine (changes_any n (some ⟨bt, ot, none⟩) n_sA n_tc n_sc c _ c_bA c_hA c_gc c_bc c_hc ds gl (some ⟨bb, ob, none⟩) cp2 rv _ Dq.out.nreads Dq.out.creads HOq.out (by omega)).mono ?_
            rintro e w12 ⟨rfl, hb12⟩
            rw [hback.out]
            have D12 := Lib.hid (Dq.out.below hb12)
            have HW12 := Lib.hid (HWq.out.trans (hb12.mono HWq.out.size))
            clear z0 z1 z2 x0 x1 x2 x3 x4 x5 hb12 HWq Dq HOq hback
            have hnc := D12.out.ncells
            have hcc := D12.out.ccells
            obtain ⟨z0, z1, z2⟩ := hnc
            obtain ⟨x0, x1, x2, x3, x4, x5⟩ := hcc
            go_wp2_with fail
            refine (wayok_any n (some ⟨bt, ot, none⟩) n_sA n_tc n_sc c _ c_bA c_hA c_gc c_bc c_hc ds gl fr w12 D12.out.nreads D12.out.creads HA2.out).mono ?_
            rintro e w13 ⟨wA2, wl2, wc2, km2, v2, rfl, hb13, _, _, hyes2⟩
            obtain ⟨rfl, rfl, rfl, _⟩ := hyes2 t2 rfl Ht2.out
            have HW13 := Lib.hid (HW12.out.trans (hb13.mono HW12.out.size))
            clear z0 z1 z2 x0 x1 x2 x3 x4 x5 hb13 HW12 D12 hyes2
            go_wp2_with (go_at_call 25; refine (rolling_any _).mono ?_; rintro e w15 ⟨rfl, hb15⟩)
            go_ret
            exact ⟨rfl, HW13.out.trans (hb15.mono HW13.out.size)⟩
          · have hce : ch = ch1 + 1 := by rw [hfirst.out, if_pos hfg]; omega
            subst hce
            have hq1 : (g0 == ga) = false := by rw [beq_eq_false_iff_ne]; exact hfg
            go_wp2_with fail
            clear hfirst z0 z1 z2 x0 x1 x2 x3 x4 x5 c3 d3 hcw hcb
            generalize hwq : wr.drewN _ = wq
            have hbq : Below wr.heap.size wr wq := by rw [← hwq]; exact below_drewN (Below.refl _ _) _
            have Dq := Lib.hid (Dr.out.below hbq)
            have HWq := Lib.hid (HWr.out.trans (hbq.mono HWr.out.size))
            have HOq := Lib.hid ((HOr.out.below hbq).more hbq.size)
            clear hbq hwq HWr HOr Dr
            have hnc := Dq.out.ncells
            have hcc := Dq.out.ccells
            obtain ⟨z0, z1, z2⟩ := hnc
            obtain ⟨x0, x1, x2, x3, x4, x5⟩ := hcc
            go_wp2_with fail
            refine (changes_any n (some ⟨bt, ot, none⟩) n_sA n_tc n_sc c _ c_bA c_hA c_gc c_bc c_hc ds gl (some ⟨bb, ob, none⟩) cp2 rv _ Dq.out.nreads Dq.out.creads HOq.out (by omega)).mono ?_
            rintro e w12 ⟨rfl, hb12⟩
            rw [hback.out]
            have D12 := Lib.hid (Dq.out.below hb12)
            have HW12 := Lib.hid (HWq.out.trans (hb12.mono HWq.out.size))
            clear z0 z1 z2 x0 x1 x2 x3 x4 x5 hb12 HWq Dq HOq hback
            have hnc := D12.out.ncells
            have hcc := D12.out.ccells
            obtain ⟨z0, z1, z2⟩ := hnc
            obtain ⟨x0, x1, x2, x3, x4, x5⟩ := hcc
            go_wp2_with fail
            refine (wayok_any n (some ⟨bt, ot, none⟩) n_sA n_tc n_sc c _ c_bA c_hA c_gc c_bc c_hc ds gl fr w12 D12.out.nreads D12.out.creads HA2.out).mono ?_
            rintro e w13 ⟨wA2, wl2, wc2, km2, v2, rfl, hb13, _, _, hyes2⟩
            obtain ⟨rfl, rfl, rfl, _⟩ := hyes2 t2 rfl Ht2.out
            have HW13 := Lib.hid (HW12.out.trans (hb13.mono HW12.out.size))
            clear z0 z1 z2 x0 x1 x2 x3 x4 x5 hb13 HW12 D12 hyes2
            go_wp2_with (go_at_call 25; refine (rolling_any _).mono ?_; rintro e w15 ⟨rfl, hb15⟩)
            go_ret
            exact ⟨rfl, HW13.out.trans (hb15.mono HW13.out.size)⟩
end Go.Proofs.Ytpbjpochjagicaa
