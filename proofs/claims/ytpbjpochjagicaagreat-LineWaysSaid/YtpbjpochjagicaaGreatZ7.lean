/- Walks: Reach and Way of the reference, and what the program's answer where the question is a bad one. -/
import Derived.Test.YtpbjpochjagicaaGreatZ5
import Derived.Test.YtpbjpochjagicaaGreatW70
import Derived.Test.YtpbjpochjagicaaGreatW32
namespace Go.Proofs.YtpbjpochjagicaaGreat.Pl
/-- the stations that are reached, of the first ones. -/
def reachTo (n : Nt) (c : Cch) (fr g : Int) : Nat → List Int
  | 0 => []
  | k + 1 => if comes n c [] (fr, g) (k : Int) then reachTo n c fr g k ++ [(k : Int)] else reachTo n c fr g k
theorem mem_reachTo {n : Nt} {c : Cch} {fr g : Int} : ∀ {k : Nat} {x : Int}, x ∈ reachTo n c fr g k ↔ 0 ≤ x ∧ x < k ∧ comes n c [] (fr, g) x = true
  | 0, x => by simp [reachTo]; omega
  | k + 1, x => by
    have ih := mem_reachTo (n := n) (c := c) (fr := fr) (g := g) (k := k) (x := x)
    rw [reachTo]
    by_cases hk : x = (k : Int)
    · subst hk
      cases h : comes n c [] (fr, g) (k : Int)
      · rw [if_neg (by simp), ih, h]
        simp
      · simp
        omega
    · have e : (x < ((k + 1 : Nat) : Int)) ↔ x < (k : Int) := by omega
      cases h : comes n c [] (fr, g) (k : Int)
      · rw [if_neg (by simp), ih, e]
      · rw [if_pos rfl, List.mem_append, ih, e]
        simp [hk]
theorem reachTo_up (n : Nt) (c : Cch) (fr g : Int) : ∀ k, (reachTo n c fr g k).Pairwise (· < ·)
  | 0 => List.Pairwise.nil
  | k + 1 => by
    rw [reachTo]
    split
    · rw [List.pairwise_append]
      refine ⟨reachTo_up n c fr g k, by simp, fun x hx y hy => ?_⟩
      obtain rfl : y = (k : Int) := by simpa using hy
      exact (mem_reachTo.1 hx).2.1
    · exact reachTo_up n c fr g k
theorem reachTo_len (n : Nt) (c : Cch) (fr g : Int) : ∀ k, (reachTo n c fr g k).length ≤ k
  | 0 => Nat.le_refl _
  | k + 1 => by
    have := reachTo_len n c fr g k
    rw [reachTo]
    split
    · simp; omega
    · omega
theorem sorted_ext : ∀ {l k : List Int}, l.Pairwise (· < ·) → k.Pairwise (· < ·) → (∀ x, x ∈ l ↔ x ∈ k) → l = k
  | [], [], _, _, _ => rfl
  | [], y :: k, _, _, h => absurd ((h y).2 (by simp)) (by simp)
  | x :: l, [], _, _, h => absurd ((h x).1 (by simp)) (by simp)
  | x :: l, y :: k, hl, hk, h => by
    rw [List.pairwise_cons] at hl hk
    have e : x = y := by
      rcases List.mem_cons.1 ((h x).1 (by simp)) with e | e
      · exact e
      · rcases List.mem_cons.1 ((h y).2 (by simp)) with e2 | e2
        · exact e2.symm
        · have := hk.1 x e
          have := hl.1 y e2
          omega
    subst e
    rw [sorted_ext hl.2 hk.2 (fun z => ⟨fun hz => ?_, fun hz => ?_⟩)]
    · rcases List.mem_cons.1 ((h z).1 (List.mem_cons_of_mem _ hz)) with e | e
      · subst e; exact absurd (hl.1 z hz) (by omega)
      · exact e
    · rcases List.mem_cons.1 ((h z).2 (List.mem_cons_of_mem _ hz)) with e | e
      · subst e; exact absurd (hk.1 z hz) (by omega)
      · exact e
end Go.Proofs.YtpbjpochjagicaaGreat.Pl
namespace Go.Proofs.YtpbjpochjagicaaGreat
open Go.RowKit

theorem asked_zero (n : Pl.Nt) (c : Pl.Cch) (fr g : Int) : Pl.asked n c fr g 0 = Pl.question n c fr g := by
  unfold Pl.asked
  by_cases h : Pl.question n c fr g = 0
  · have hs := check_stops (both_check (question_b h).1).1
    have ho : Pl.out 0 0 (n.stops - 1) = false := by
      unfold Pl.out
      simp
      omega
    rw [if_neg (by simp [h]), ho, h]
    rfl
  · rw [if_pos h]
theorem gets_stop {n : Pl.Nt} {c : Pl.Cch} {p z : Pl.Place} (hck : Pl.check n = 0) (h0 : 0 ≤ p.1) (h1 : p.1 ≤ n.stops - 1) (h : Pl.Gets (Pl.run n c []) n.tracks.length p z) : 0 ≤ z.1 ∧ z.1 ≤ n.stops - 1 := by
  induction h with
  | refl => exact ⟨h0, h1⟩
  | step _ hi hz _ =>
    have ok := trk_at hck hi
    have := ok.a0; have := ok.a1; have := ok.b0; have := ok.b1
    rw [(Pl.run_end hz).2.1]
    split <;> omega
theorem comes_range {n : Pl.Nt} {c : Pl.Cch} {fr g x : Int} (hq : Pl.question n c fr g = 0) (h : Pl.comes n c [] (fr, g) x = true) : 0 ≤ x ∧ x < n.stops.toNat := by
  obtain ⟨hb, ho, hg⟩ := question_b hq
  have hc := both_check hb
  have ho' := out_false ho
  have hgr := (fits_lists hc.2).1 g hg
  rw [Pl.comes_gets places (gets_in hc.1 ho'.1 ho'.2 (by show 0 ≤ g; omega) (by show g ≤ 3; omega)) places_length] at h
  obtain ⟨z, hz, rfl⟩ := h
  have := gets_stop hc.1 ho'.1 ho'.2 hz
  omega
def ReachPost (q : Int) (L : List Int) (w : World) (e : Ending) (w' : World) : Prop := ∃ A k cp v, e = .returned (.tuple #[.slice A k cp, .int .i64 v]) ∧ Below w.heap.size w w' ∧ (q ≠ 0 → v = q ∧ k = 0) ∧ (q = 0 → v = 0 ∧ k = L.length ∧ Ints w' w'.heap.size A L)

set_option maxRecDepth 20000 in
set_option maxHeartbeats 8000000 in
/-- The program's. -/
theorem preach_any (n : Pl.Nt) (n_tA n_sA : Option Addr) (n_tc n_sc : Nat) (c : Pl.Cch) (c_gA c_bA c_hA : Option Addr) (c_gc c_bc c_hc : Nat) (fr g : Int) (w : World) (hn : NReads w w.heap.size n n_tA n_sA n_tc n_sc) (hr : CReads w w.heap.size c c_gA c_bA c_hA c_gc c_bc c_hc) :
    Calls Tryz.prog 21 #[.agg #[.int .i64 n.stops, .slice n_tA n.tracks.length n_tc, .slice n_sA n.shops.length n_sc], .agg #[.slice c_gA c.gauges.length c_gc, .int .i64 c.size, .int .i64 c.load, .slice c_bA c.brakes.length c_bc, .slice c_hA c.heats.length c_hc, .bool c.hooks], .int .i64 fr, .int .i64 g] w (ReachPost (Pl.question n c fr g) (Pl.reachTo n c fr g n.stops.toNat) w) := by
  by_cases hq : Pl.question n c fr g = 0
  · refine (reach_any n n_tA n_sA n_tc n_sc c c_gA c_bA c_hA c_gc c_bc c_hc fr g w hn hr hq).mono ?_
    rintro e w' ⟨A, cp, ys, rfl, hs, hm, _, hI, hb⟩
    have e : ys = Pl.reachTo n c fr g n.stops.toNat := Pl.sorted_ext hs (Pl.reachTo_up _ _ _ _ _) (fun x => by
      rw [hm, Pl.mem_reachTo]
      constructor
      · intro h
        have := comes_range hq h
        exact ⟨this.1, this.2, h⟩
      · exact fun h => h.2.2)
    subst e
    exact ⟨A, _, cp, 0, rfl, hb, fun h => absurd hq h, fun _ => ⟨rfl, rfl, hI⟩⟩
  · have hb2 : Below w.heap.size w ((w.alloc (.cells #[.int .i64 n.stops, .slice n_tA n.tracks.length n_tc, .slice n_sA n.shops.length n_sc] 25)).alloc (.cells #[.slice c_gA c.gauges.length c_gc, .int .i64 c.size, .int .i64 c.load, .slice c_bA c.brakes.length c_bc, .slice c_hA c.heats.length c_hc, .bool c.hooks] 27)) := ((Below.refl _ _).alloc (Nat.le_refl _) _).alloc (by simp) _
    have HQ := Lib.hid (question_any n n_tA n_sA n_tc n_sc c c_gA c_bA c_hA c_gc c_bc c_hc fr g ((w.alloc (.cells #[.int .i64 n.stops, .slice n_tA n.tracks.length n_tc, .slice n_sA n.shops.length n_sc] 25)).alloc (.cells #[.slice c_gA c.gauges.length c_gc, .int .i64 c.size, .int .i64 c.load, .slice c_bA c.brakes.length c_bc, .slice c_hA c.heats.length c_hc, .bool c.hooks] 27)) ((hn.below hb2).more hb2.size) ((hr.below hb2).more hb2.size))
    have HB2 := Lib.hid hb2
    have hb : (Pl.question n c fr g != 0) = true := by rw [bne_iff_ne]; exact hq
    have HA : Hid (Pl.question n c fr g ≠ 0) := hq
    clear hq hn hr hb2
    generalize Pl.reachTo n c fr g n.stops.toNat = L
    go_enter Tryz.func21, Tryz.ntmps21
    go_wp2_with fail
    refine HQ.out.mono ?_
    rintro e w1 ⟨rfl, hb1⟩
    have HW := Lib.hid (HB2.out.trans (hb1.mono HB2.out.size))
    clear hb1 HQ
    go_wp2_with fail
    go_ret2
    exact ⟨none, 0, 0, _, rfl, by first | exact HW.out | exact HW.out.alloc HW.out.size _ | exact below_drewN HW.out _, fun _ => ⟨rfl, rfl⟩, fun h => absurd h HA.out⟩

set_option maxRecDepth 20000 in
set_option maxHeartbeats 8000000 in
/-- The reference's. -/
theorem rreach_any (n : Pl.Nt) (n_tA n_sA : Option Addr) (n_tc n_sc : Nat) (c : Pl.Cch) (c_gA c_bA c_hA : Option Addr) (c_gc c_bc c_hc : Nat) (fr g : Int) (w : World) (hn : NReads w w.heap.size n n_tA n_sA n_tc n_sc) (hr : CReads w w.heap.size c c_gA c_bA c_hA c_gc c_bc c_hc) :
    Calls Tryz.prog 22 #[.agg #[.int .i64 n.stops, .slice n_tA n.tracks.length n_tc, .slice n_sA n.shops.length n_sc], .agg #[.slice c_gA c.gauges.length c_gc, .int .i64 c.size, .int .i64 c.load, .slice c_bA c.brakes.length c_bc, .slice c_hA c.heats.length c_hc, .bool c.hooks], .int .i64 fr, .int .i64 g] w (ReachPost (Pl.question n c fr g) (Pl.reachTo n c fr g n.stops.toNat) w) := by
  obtain ⟨w2, hw2⟩ : ∃ w2, w2 = (w.alloc (.cells #[.int .i64 n.stops, .slice n_tA n.tracks.length n_tc, .slice n_sA n.shops.length n_sc] 25)).alloc (.cells #[.slice c_gA c.gauges.length c_gc, .int .i64 c.size, .int .i64 c.load, .slice c_bA c.brakes.length c_bc, .slice c_hA c.heats.length c_hc, .bool c.hooks] 27) := ⟨_, rfl⟩
  have hb2 : Below w.heap.size w w2 := by rw [hw2]; exact ((Below.refl _ _).alloc (Nat.le_refl _) _).alloc (by simp) _
  have hbn : w2.heap[w.heap.size]? = some (.cells #[.int .i64 n.stops, .slice n_tA n.tracks.length n_tc, .slice n_sA n.shops.length n_sc] 25 (0, 0)) := by rw [hw2]; exact blk_alloc (heap_alloc_new _ _) _
  have hbc : w2.heap[w.heap.size + 1]? = some (.cells #[.slice c_gA c.gauges.length c_gc, .int .i64 c.size, .int .i64 c.load, .slice c_bA c.brakes.length c_bc, .slice c_hA c.heats.length c_hc, .bool c.hooks] 27 (0, 0)) := by rw [hw2]; simpa using heap_alloc_new (w.alloc (.cells #[.int .i64 n.stops, .slice n_tA n.tracks.length n_tc, .slice n_sA n.shops.length n_sc] 25)) (.cells #[.slice c_gA c.gauges.length c_gc, .int .i64 c.size, .int .i64 c.load, .slice c_bA c.brakes.length c_bc, .slice c_hA c.heats.length c_hc, .bool c.hooks] 27)
  have HN := Lib.hid hn
  have HR := Lib.hid hr
  have HW2 := Lib.hid hw2
  have HB2 := Lib.hid hb2
  have HBN := Lib.hid hbn
  have HBC := Lib.hid hbc
  have has := rasked_any n n_tA n_sA n_tc n_sc c c_gA c_bA c_hA c_gc c_bc c_hc fr g 0 w2 ((hn.below hb2).more hb2.size) ((hr.below hb2).more hb2.size)
  rw [asked_zero] at has
  have HAS := Lib.hid has
  have x0 := blk_cell hbn 0
  have x1 := blk_cell hbn 1
  have x2 := blk_cell hbn 2
  have y0 := blk_cell hbc 0
  have y1 := blk_cell hbc 1
  have y2 := blk_cell hbc 2
  have y3 := blk_cell hbc 3
  have y4 := blk_cell hbc 4
  have y5 := blk_cell hbc 5
  clear hn hr hb2 hbn hbc hw2 has
  by_cases hA : Pl.question n c fr g = 0
  · obtain ⟨hp0, -, -⟩ := spot_of (ds := 0) (by rw [asked_zero]; exact hA)
    have hck := (both_check (question_b hA).1).1
    have hst := check_stops hck
    have HTR : Hid (∀ W, Below w.heap.size w W → Calls Tryz.prog 57 #[.agg #[.int .i64 n.stops, .slice n_tA n.tracks.length n_tc, .slice n_sA n.shops.length n_sc], .agg #[.slice c_gA c.gauges.length c_gc, .int .i64 c.size, .int .i64 c.load, .slice c_bA c.brakes.length c_bc, .slice c_hA c.heats.length c_hc, .bool c.hooks], .slice none ([] : List Int).length 0, .int .i64 (-1), .agg #[.int .i64 fr, .int .i64 g]] W fun e w' => ∃ ls : List Tc, e = .returned (.slice (some ⟨W.heap.size + 3, 0, none⟩) 24 24) ∧ TcsAt w' (W.heap.size + 3) ls ∧ ls.length = 24 ∧ (∀ x ∈ ls, (tWay x.t).length ≤ 1000) ∧
        (∀ st : Int, 0 ≤ st → st ≤ 5 → (Pl.atOf (ls.map Tc.t) st).isSome = Pl.comes n c [] (fr, g) st) ∧ Below W.heap.size W w') := fun W hW => by
      refine (trips_any n n_tA n_sA n_tc n_sc c c_gA c_bA c_hA c_gc c_bc c_hc none [] 0 (-1) fr g W ((HN.out.below hW).more hW.size) ((HR.out.below hW).more hW.size) (Ints.nil _ _ _) (by simp) hck hp0).mono ?_
      rintro e w' ⟨ls, h1, h2, h3, h4, h5, h6, h7⟩
      exact ⟨ls, h1, h2, h3, h4, fun st s0 s5 => by rw [at_comesB hck hp0 h5 h6 s0 s5, Pl.comesB_all], h7⟩
    have HL := Lib.hid (fun k => Pl.reachTo_len n c fr g k)
    have HS1 : Hid (∀ k, Pl.comes n c [] (fr, g) ((k : Nat) : Int) = true → Pl.reachTo n c fr g (k + 1) = Pl.reachTo n c fr g k ++ [(k : Int)]) := fun k h => by rw [Pl.reachTo, if_pos h]
    have HS0 : Hid (∀ k, Pl.comes n c [] (fr, g) ((k : Nat) : Int) = false → Pl.reachTo n c fr g (k + 1) = Pl.reachTo n c fr g k) := fun k h => by rw [Pl.reachTo, if_neg (by simp [h])]
    have hfl := field100
    rw [hA] at HAS ⊢
    clear hck hp0 hA
    go_enter Tryz.func22, Tryz.ntmps22
    go_upto_region 1 with fail
    rw [← HW2.out]
    go_upto_region 4 with (go_at_call 43; refine HAS.out.mono ?_; rintro e w5 ⟨rfl, hb5⟩; have HB5 := Lib.hid hb5; clear hb5 x0 x1 x2 y0 y1 y2 y3 y4 y5)
    have hbn5 := blk_below HBN.out HB5.out (lt_of_block HBN.out)
    have hbc5 := blk_below HBC.out HB5.out (lt_of_block HBC.out)
    have x0 := blk_cell hbn5 0
    have x1 := blk_cell hbn5 1
    have x2 := blk_cell hbn5 2
    have y0 := blk_cell hbc5 0
    have y1 := blk_cell hbc5 1
    have y2 := blk_cell hbc5 2
    have y3 := blk_cell hbc5 3
    have y4 := blk_cell hbc5 4
    have y5 := blk_cell hbc5 5
    have HBW := Lib.hid (HB2.out.trans (HB5.out.mono HB2.out.size))
    have HBN5 := Lib.hid hbn5
    clear hbn5 hbc5
    go_wp2_with (go_at_call 57; refine (HTR.out _ HBW.out).mono ?_; rintro e w6 ⟨ls, rfl, hT, hlen, hwl, hat, hb6⟩; have HT6 := Lib.hid hT; have HLN := Lib.hid hlen; have HWL := Lib.hid hwl; have HAT := Lib.hid hat; have HB6 := Lib.hid (HBW.out.trans (hb6.mono HBW.out.size)); have HBN6 := Lib.hid (blk_below HBN5.out hb6 (lt_of_block HBN5.out)); clear hT hlen hwl hat hb6 x0 x1 x2 y0 y1 y2 y3 y4 y5)
    go_loopw [12, 13] (fun lv iv wr => ∃ (A : Option Addr) (cp k : Nat), (k : Int) ≤ n.stops ∧ lv = .slice A (Pl.reachTo n c fr g k).length cp ∧ iv = .int .i64 k ∧ Hid (OwnInts wr w6.heap.size A cp (Pl.reachTo n c fr g k)) ∧ Hid (Below w6.heap.size w6 wr)) (fun _ i _ => n.stops.toNat - (intOf i).toNat)
    case atStart => exact ⟨none, 0, 0, by omega, rfl, rfl, ⟨rfl, .inl ⟨rfl, rfl⟩⟩, Below.refl _ _⟩
    case round =>
      obtain ⟨A, cp, k, hk, rfl, rfl, hO, hB⟩ := hrel
      have x0 := blk_cell (blk_below HBN6.out hB.out (lt_of_block HBN6.out)) 0
      by_cases hks : (k : Int) < n.stops
      · have hk5 : (k : Int) ≤ 5 := by omega
        have HTW := Lib.hid (HT6.out.below hB.out)
        have hlk := HL.out k
        have hws := hB.out.size
        cases hcm : Pl.comes n c [] (fr, g) (k : Int)
        · have HE : Hid (Pl.reachTo n c fr g (k + 1) = Pl.reachTo n c fr g k) := HS0.out k hcm
          have HCM := Lib.hid ((HAT.out (k : Int) (by omega) hk5).trans hcm)
          clear hcm
          go_wp2_with (go_at_call 58; refine (rat_any _ 24 ls k wr HTW.out HLN.out (by omega) hk5 HWL.out).mono ?_; rintro e w7 ⟨x, rfl, hx, -, -, hb7⟩; have hxs : x.t.isSome = false := (by rw [hx]; exact HCM.out); simp only [tcVal]; have HB7 := Lib.hid (hB.out.trans (hb7.mono hB.out.size)); have HO7 := Lib.hid (own_below hO.out hb7 (Nat.le_refl _)); clear hx hb7)
          go_roundw
          case rel => exact ⟨A, cp, k + 1, by omega, by rw [HE.out], by go_num, by rw [HE.out]; exact HO7, HB7⟩
          case measure => simp [intOf]; omega
        · have HE : Hid (Pl.reachTo n c fr g (k + 1) = Pl.reachTo n c fr g k ++ [(k : Int)]) := HS1.out k hcm
          have HCM := Lib.hid ((HAT.out (k : Int) (by omega) hk5).trans hcm)
          clear hcm
          go_wp2_with (first
            | (go_at_call 58; refine (rat_any _ 24 ls k wr HTW.out HLN.out (by omega) hk5 HWL.out).mono ?_; rintro e w7 ⟨x, rfl, hx, -, -, hb7⟩; have hxs : x.t.isSome = true := (by rw [hx]; exact HCM.out); simp only [tcVal]; have HB7 := Lib.hid (hB.out.trans (hb7.mono hB.out.size)); have HO7 := Lib.hid (own_below hO.out hb7 (Nat.le_refl _)); have hs7 := HB7.out.size; clear hx hb7)
            | (at_builtin; refine wpl_app_ints rfl (.tmp 38) (.tmp 40) 23 rfl w6.heap.size Tryz.underlying23 int_info A cp (Pl.reachTo n c fr g k) rfl (own_alloc HO7.out _) (w7.heap.size + 1) (some ⟨w7.heap.size, 0, none⟩) 1 [(k : Int)] rfl (ints_one _ _ _ (by simp) (by omega)) (by simp; omega) (by simp; omega) ?_; intro A2 c2 w8 hown8 hg8 hat8; have Hfar := Lib.hid (HB7.out.trans (((Below.refl _ _).alloc HB7.out.size _).grown hg8 (by simp; omega) (own_from HO7.out))); have Hown8 := Lib.hid hown8; clear hown8 hg8 hat8))
          go_roundw
          case rel => exact ⟨A2, c2, k + 1, by omega, by rw [HE.out]; simp, by go_num, by rw [HE.out]; exact Hown8, Hfar⟩
          case measure => simp [intOf]; omega
      · have hke : n.stops.toNat = k := by omega
        have hks2 : decide ((k : Int) < n.stops) = false := decide_eq_false hks
        have HKE := Lib.hid hke
        clear hke hks
        go_wp2_with fail
        go_ret2
        refine ⟨A, _, cp, 0, rfl, HB6.out.trans (hB.out.mono HB6.out.size), fun h => absurd rfl h, fun _ => ⟨rfl, ?_, ?_⟩⟩
        · rw [HKE.out]
        · rw [HKE.out]; exact hO.out.ints
  · have hq : (Pl.question n c fr g != 0) = true := by rw [bne_iff_ne]; exact hA
    have HA : Hid (Pl.question n c fr g ≠ 0) := hA
    generalize Pl.reachTo n c fr g n.stops.toNat = L
    generalize Pl.question n c fr g = q at hA hq HA HAS
    clear hA
    go_enter Tryz.func22, Tryz.ntmps22
    go_upto_region 1 with fail
    rw [← HW2.out]
    go_wp2_with (go_at_call 43; refine HAS.out.mono ?_; rintro e w5 ⟨rfl, hb5⟩; have HB5 := Lib.hid hb5; clear hb5 x0 x1 x2 y0 y1 y2 y3 y4 y5)
    go_ret2
    exact ⟨none, 0, 0, q, rfl, HB2.out.trans (HB5.out.mono HB2.out.size), fun _ => ⟨rfl, rfl⟩, fun h => absurd h HA.out⟩

set_option maxRecDepth 20000 in
set_option maxHeartbeats 8000000 in
/-- The program's Way, whatever is asked. -/
theorem pway_any (n : Pl.Nt) (n_tA n_sA : Option Addr) (n_tc n_sc : Nat) (c : Pl.Cch) (c_gA c_bA c_hA : Option Addr) (c_gc c_bc c_hc : Nat) (fr g ds : Int) (w : World) (hn : NReads w w.heap.size n n_tA n_sA n_tc n_sc) (hr : CReads w w.heap.size c c_gA c_bA c_hA c_gc c_bc c_hc) :
    Calls Tryz.prog 23 #[.agg #[.int .i64 n.stops, .slice n_tA n.tracks.length n_tc, .slice n_sA n.shops.length n_sc], .agg #[.slice c_gA c.gauges.length c_gc, .int .i64 c.size, .int .i64 c.load, .slice c_bA c.brakes.length c_bc, .slice c_hA c.heats.length c_hc, .bool c.hooks], .int .i64 fr, .int .i64 g, .int .i64 ds] w (WayPost (Pl.asked n c fr g ds) (Pl.way n c fr g ds) w) := by
  by_cases hA : Pl.asked n c fr g ds = 0
  · have h := wayok_any n n_tA n_sA n_tc n_sc c c_gA c_bA c_hA c_gc c_bc c_hc fr g ds w hn hr hA
    rwa [← hA] at h
  · obtain ⟨w3, hw3⟩ : ∃ w3, w3 = ((w.alloc (.cells #[.int .i64 n.stops, .slice n_tA n.tracks.length n_tc, .slice n_sA n.shops.length n_sc] 25)).alloc (.cells #[.slice c_gA c.gauges.length c_gc, .int .i64 c.size, .int .i64 c.load, .slice c_bA c.brakes.length c_bc, .slice c_hA c.heats.length c_hc, .bool c.hooks] 27)).alloc (.cells #[.int .i64 ds] 3) := ⟨_, rfl⟩
    have hb3 : Below w.heap.size w w3 := by rw [hw3]; exact (((Below.refl _ _).alloc (Nat.le_refl _) _).alloc (by simp) _).alloc (by simp; omega) _
    have HQ := Lib.hid (asked_no n n_tA n_sA n_tc n_sc c c_gA c_bA c_hA c_gc c_bc c_hc fr g ds w3 ((hn.below hb3).more hb3.size) ((hr.below hb3).more hb3.size) hA)
    have hb : (Pl.asked n c fr g ds != 0) = true := by rw [bne_iff_ne]; exact hA
    have HA : Hid (Pl.asked n c fr g ds ≠ 0) := hA
    have HB3 := Lib.hid hb3
    have HW3 := Lib.hid hw3
    clear hA hn hr hb3 hw3
    generalize Pl.way n c fr g ds = R
    go_enter Tryz.func23, Tryz.ntmps23
    go_wp2_with fail
    rw [← HW3.out]
    refine HQ.out.mono ?_
    rintro e w1 ⟨rfl, hb1⟩
    have HW := Lib.hid (HB3.out.trans (hb1.mono HB3.out.size))
    have hs := HW.out.size
    clear hb1
    go_wp2_with fail
    go_ret3
    exact wayPost_asked HA.out ((HW.out.alloc hs _).alloc (by simp; omega) _)

set_option maxRecDepth 20000 in
set_option maxHeartbeats 8000000 in
/-- The reference's Way. -/
theorem rway_any (n : Pl.Nt) (n_tA n_sA : Option Addr) (n_tc n_sc : Nat) (c : Pl.Cch) (c_gA c_bA c_hA : Option Addr) (c_gc c_bc c_hc : Nat) (fr g ds : Int) (w : World) (hn : NReads w w.heap.size n n_tA n_sA n_tc n_sc) (hr : CReads w w.heap.size c c_gA c_bA c_hA c_gc c_bc c_hc) :
    Calls Tryz.prog 24 #[.agg #[.int .i64 n.stops, .slice n_tA n.tracks.length n_tc, .slice n_sA n.shops.length n_sc], .agg #[.slice c_gA c.gauges.length c_gc, .int .i64 c.size, .int .i64 c.load, .slice c_bA c.brakes.length c_bc, .slice c_hA c.heats.length c_hc, .bool c.hooks], .int .i64 fr, .int .i64 g, .int .i64 ds] w (WayPost (Pl.asked n c fr g ds) (Pl.way n c fr g ds) w) := by
  obtain ⟨w2, hw2⟩ : ∃ w2, w2 = (w.alloc (.cells #[.int .i64 n.stops, .slice n_tA n.tracks.length n_tc, .slice n_sA n.shops.length n_sc] 25)).alloc (.cells #[.slice c_gA c.gauges.length c_gc, .int .i64 c.size, .int .i64 c.load, .slice c_bA c.brakes.length c_bc, .slice c_hA c.heats.length c_hc, .bool c.hooks] 27) := ⟨_, rfl⟩
  have hb2 : Below w.heap.size w w2 := by rw [hw2]; exact ((Below.refl _ _).alloc (Nat.le_refl _) _).alloc (by simp) _
  have hbn : w2.heap[w.heap.size]? = some (.cells #[.int .i64 n.stops, .slice n_tA n.tracks.length n_tc, .slice n_sA n.shops.length n_sc] 25 (0, 0)) := by rw [hw2]; exact blk_alloc (heap_alloc_new _ _) _
  have hbc : w2.heap[w.heap.size + 1]? = some (.cells #[.slice c_gA c.gauges.length c_gc, .int .i64 c.size, .int .i64 c.load, .slice c_bA c.brakes.length c_bc, .slice c_hA c.heats.length c_hc, .bool c.hooks] 27 (0, 0)) := by rw [hw2]; simpa using heap_alloc_new (w.alloc (.cells #[.int .i64 n.stops, .slice n_tA n.tracks.length n_tc, .slice n_sA n.shops.length n_sc] 25)) (.cells #[.slice c_gA c.gauges.length c_gc, .int .i64 c.size, .int .i64 c.load, .slice c_bA c.brakes.length c_bc, .slice c_hA c.heats.length c_hc, .bool c.hooks] 27)
  have HN := Lib.hid hn
  have HR := Lib.hid hr
  have HW2 := Lib.hid hw2
  have HB2 := Lib.hid hb2
  have HBN := Lib.hid hbn
  have HBC := Lib.hid hbc
  have HAS := Lib.hid (rasked_any n n_tA n_sA n_tc n_sc c c_gA c_bA c_hA c_gc c_bc c_hc fr g ds w2 ((hn.below hb2).more hb2.size) ((hr.below hb2).more hb2.size))
  have x0 := blk_cell hbn 0
  have x1 := blk_cell hbn 1
  have x2 := blk_cell hbn 2
  have y0 := blk_cell hbc 0
  have y1 := blk_cell hbc 1
  have y2 := blk_cell hbc 2
  have y3 := blk_cell hbc 3
  have y4 := blk_cell hbc 4
  have y5 := blk_cell hbc 5
  clear hn hr hb2 hbn hbc hw2
  by_cases hA : Pl.asked n c fr g ds = 0
  · obtain ⟨hp0, d0, d5⟩ := spot_of hA
    have hck := (asked_good hA).1
    have HTR : Hid (∀ W, Below w.heap.size w W → Calls Tryz.prog 57 #[.agg #[.int .i64 n.stops, .slice n_tA n.tracks.length n_tc, .slice n_sA n.shops.length n_sc], .agg #[.slice c_gA c.gauges.length c_gc, .int .i64 c.size, .int .i64 c.load, .slice c_bA c.brakes.length c_bc, .slice c_hA c.heats.length c_hc, .bool c.hooks], .slice none ([] : List Int).length 0, .int .i64 (-1), .agg #[.int .i64 fr, .int .i64 g]] W fun e w' => ∃ ls : List Tc, e = .returned (.slice (some ⟨W.heap.size + 3, 0, none⟩) 24 24) ∧ TcsAt w' (W.heap.size + 3) ls ∧ ls.length = 24 ∧ (∀ x ∈ ls, (tWay x.t).length ≤ 1000) ∧
        Pl.atOf (ls.map Tc.t) ds = Pl.way n c fr g ds ∧ Below W.heap.size W w') := fun W hW => by
      refine (trips_any n n_tA n_sA n_tc n_sc c c_gA c_bA c_hA c_gc c_bc c_hc none [] 0 (-1) fr g W ((HN.out.below hW).more hW.size) ((HR.out.below hW).more hW.size) (Ints.nil _ _ _) (by simp) hck hp0).mono ?_
      rintro e w' ⟨ls, h1, h2, h3, h4, h5, h6, h7⟩
      exact ⟨ls, h1, h2, h3, h4, at_way hck hp0 h5 h6 d0 d5, h7⟩
    rw [hA] at HAS ⊢
    clear hck hp0 hA
    obtain ⟨R, hR⟩ : ∃ R, Pl.way n c fr g ds = R := ⟨_, rfl⟩
    rw [hR] at HTR ⊢
    clear hR
    go_enter Tryz.func24, Tryz.ntmps24
    go_upto_region 1 with fail
    rw [← HW2.out]
    go_upto_region 4 with (go_at_call 43; refine HAS.out.mono ?_; rintro e w5 ⟨rfl, hb5⟩; have HB5 := Lib.hid hb5; clear hb5 x0 x1 x2 y0 y1 y2 y3 y4 y5)
    have hbn5 := blk_below HBN.out HB5.out (lt_of_block HBN.out)
    have hbc5 := blk_below HBC.out HB5.out (lt_of_block HBC.out)
    have x0 := blk_cell hbn5 0
    have x1 := blk_cell hbn5 1
    have x2 := blk_cell hbn5 2
    have y0 := blk_cell hbc5 0
    have y1 := blk_cell hbc5 1
    have y2 := blk_cell hbc5 2
    have y3 := blk_cell hbc5 3
    have y4 := blk_cell hbc5 4
    have y5 := blk_cell hbc5 5
    have HBW := Lib.hid (HB2.out.trans (HB5.out.mono HB2.out.size))
    clear hbn5 hbc5
    cases R with
    | none =>
      go_wp2_with (first
        | (go_at_call 57; refine (HTR.out _ HBW.out).mono ?_; rintro e w6 ⟨ls, rfl, hT, hlen, hwl, hat, hb6⟩; have HT6 := Lib.hid hT; have HLN := Lib.hid hlen; have HWL := Lib.hid hwl; have HAT := Lib.hid hat; have HB6 := Lib.hid (HBW.out.trans (hb6.mono HBW.out.size)); clear hT hlen hwl hat hb6 x0 x1 x2 y0 y1 y2 y3 y4 y5)
        | (go_at_call 58; refine (rat_any _ 24 ls ds w6 HT6.out HLN.out d0 d5 HWL.out).mono ?_; rintro e w7 ⟨⟨xt, xA, xc⟩, rfl, hx, -, -, hb7⟩; obtain rfl : xt = none := (hx.trans HAT.out); simp only [tcVal, tKm, tCh, tWay, Option.isSome_none, List.length_nil]; have HB7 := Lib.hid (HB6.out.trans (hb7.mono HB6.out.size)); clear hx hb7; have t0 := blk_cell (heap_alloc_new w7 (.cells #[.bool false, .int .i64 0, .int .i64 0, .slice xA 0 xc] 100)) 0))
      go_ret3
      exact wayPost_none (HB7.out.alloc HB7.out.size _)
    | some t =>
      go_wp2_with (first
        | (go_at_call 57; refine (HTR.out _ HBW.out).mono ?_; rintro e w6 ⟨ls, rfl, hT, hlen, hwl, hat, hb6⟩; have HT6 := Lib.hid hT; have HLN := Lib.hid hlen; have HWL := Lib.hid hwl; have HAT := Lib.hid hat; have HB6 := Lib.hid (HBW.out.trans (hb6.mono HBW.out.size)); clear hT hlen hwl hat hb6 x0 x1 x2 y0 y1 y2 y3 y4 y5)
        | (go_at_call 58; refine (rat_any _ 24 ls ds w6 HT6.out HLN.out d0 d5 HWL.out).mono ?_; rintro e w7 ⟨⟨xt, xA, xc⟩, rfl, hx, hI, -, hb7⟩; obtain rfl : xt = some t := (hx.trans HAT.out); simp only [tcVal, tKm, tCh, tWay, Option.isSome_some]; have HB7 := Lib.hid (HB6.out.trans (hb7.mono HB6.out.size)); have HI7 : Hid (Ints w7 w7.heap.size xA t.way) := (hI); clear hx hb7 hI; have t0 := blk_cell (heap_alloc_new w7 (.cells #[.bool true, .int .i64 t.km, .int .i64 t.changes, .slice xA t.way.length xc] 100)) 0; have t1 := blk_cell (heap_alloc_new w7 (.cells #[.bool true, .int .i64 t.km, .int .i64 t.changes, .slice xA t.way.length xc] 100)) 1; have t3 := blk_cell (heap_alloc_new w7 (.cells #[.bool true, .int .i64 t.km, .int .i64 t.changes, .slice xA t.way.length xc] 100)) 3))
      go_quiet (fail)
      go_wp2_with fail
      go_ret3
      have hbz : Below w7.heap.size w7 (w7.alloc (.cells #[.bool true, .int .i64 t.km, .int .i64 t.changes, .slice xA t.way.length xc] 100)) := (Below.refl _ _).alloc (Nat.le_refl _) _
      exact wayPost_some (Ints.drewN ((HI7.out.below hbz).more hbz.size) _) (below_drewN (HB7.out.trans (hbz.mono HB7.out.size)) _)
  · have hq : (Pl.asked n c fr g ds != 0) = true := by rw [bne_iff_ne]; exact hA
    have HA : Hid (Pl.asked n c fr g ds ≠ 0) := hA
    generalize Pl.way n c fr g ds = R
    generalize Pl.asked n c fr g ds = q at hA hq HA HAS
    clear hA
    go_enter Tryz.func24, Tryz.ntmps24
    go_upto_region 1 with fail
    rw [← HW2.out]
    go_wp2_with (go_at_call 43; refine HAS.out.mono ?_; rintro e w5 ⟨rfl, hb5⟩; have HB5 := Lib.hid hb5; clear hb5 x0 x1 x2 y0 y1 y2 y3 y4 y5)
    go_ret3
    exact wayPost_asked HA.out (HB2.out.trans (HB5.out.mono HB2.out.size))
end Go.Proofs.YtpbjpochjagicaaGreat
