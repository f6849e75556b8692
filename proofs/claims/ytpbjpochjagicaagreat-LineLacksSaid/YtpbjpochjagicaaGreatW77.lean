/- Walks: what the reference says of nets and cars: among, rising, Fits, Check, both (by gen_ref1.py). Walks: what the reference says of nets and cars: Check, both (by gen_ref2.py). -/
import Derived.Test.YtpbjpochjagicaaGreatW28
import Derived.Test.YtpbjpochjagicaaGreatGv
import Derived.Test.YtpbjpochjagicaaGreatW63
import Derived.BigQuiet
namespace Go.Proofs.YtpbjpochjagicaaGreat
open Go.RowKit

theorem drewN2 (w : World) (m k : Nat) : (w.drewN m).drewN k = w.drewN (m + k) := World.drewN_drewN w m k
theorem among_any (n lo hi : Int) (w : World) : Calls Tryz.prog 80 #[.int .i64 n, .int .i64 lo, .int .i64 hi] w fun e w' => e = .returned (.bool (!Pl.out n lo hi)) ∧ w = w' := by
  by_cases h1 : n < lo
  · have h : Pl.out n lo hi = true := by simp [Pl.out, h1]
    have h3 : ¬ lo ≤ n := by omega
    rw [h]; clear h
    go_enter Tryz.func80, Tryz.ntmps80
    go_wp2
    go_ret
    exact ⟨rfl, rfl⟩
  · have h3 : lo ≤ n := by omega
    by_cases h2 : hi < n
    · have h : Pl.out n lo hi = true := by simp [Pl.out, h2]
      have h4 : ¬ n ≤ hi := by omega
      rw [h]; clear h
      go_enter Tryz.func80, Tryz.ntmps80
      go_wp2
      go_ret
      exact ⟨rfl, rfl⟩
    · have h : Pl.out n lo hi = false := by simp [Pl.out, h1, h2]
      have h4 : n ≤ hi := by omega
      rw [h]; clear h
      go_enter Tryz.func80, Tryz.ntmps80
      go_wp2
      go_ret
      exact ⟨rfl, rfl⟩

set_option maxHeartbeats 1000000 in
theorem rrising_any (A : Option Addr) (c : Nat) (xs : List Int) (hi : Int) (w : World) (hx : Ints w w.heap.size A xs) (hl : xs.length ≤ 9223372036854775807) :
    Calls Tryz.prog 111 #[.slice A xs.length c, .int .i64 hi] w fun e w' => e = .returned (.int .i64 (Pl.rising xs 1 hi 1)) ∧ ∃ m, w' = w.drewN m := by
  have HX := Lib.hid hx
  clear hx
  generalize hR : Pl.rising xs 1 hi 1 = R
  have hR0 : Hid (R = Pl.risingFrom 1 hi 1 (before xs 0) (xs.drop 0)) := hR.symm
  clear hR
  go_enter Tryz.func111, Tryz.ntmps111
  go_wp2_with fail
  go_loopw [5] (fun iv wr => ∃ k : Nat, k ≤ xs.length ∧ iv = .int .i64 k ∧ Hid (R = Pl.risingFrom 1 hi 1 (before xs k) (xs.drop k)) ∧ ∃ m, wr = w.drewN m) (fun i _ => xs.length - (intOf i).toNat)
  case atStart => exact ⟨0, Nat.zero_le _, rfl, hR0, 0, rfl⟩
  case round =>
    obtain ⟨k, hk, rfl, hRk, m, rfl⟩ := hrel
    clear hR0
    by_cases hlt : k < xs.length
    · have hki : (k : Int) < (xs.length : Int) := by omega
      obtain ⟨b, off, hA, hb, hc⟩ := HX.out k xs[k] (List.getElem?_eq_getElem hlt)
      subst hA
      have hck : (w.drewN m).cell? ⟨b, off + k, none⟩ = some (.int .i64 xs[k]) := hc
      have hbr : b < (w.drewN m).heap.size := hb
      have hd : xs.drop k = xs[k] :: xs.drop (k + 1) := List.drop_eq_getElem_cons hlt
      have hbs : before xs (k + 1) = some xs[k] := by rw [before_succ]; exact List.getElem?_eq_getElem hlt
      cases ho : Pl.out xs[k] 1 hi
      · by_cases hk0 : k = 0
        · have hN : Hid (R = Pl.risingFrom 1 hi 1 (before xs (k + 1)) (xs.drop (k + 1))) := by
            show _ = _
            have h0 : before xs k = none := by simp [before, hk0]
            rw [hRk.out, hd, hbs, h0]
            simp [Pl.risingFrom, ho]
          have hkz : ¬ 0 < k := by omega
          clear hk0
          clear hd hbs hRk
          go_wp2_with (go_at_call 80; refine (among_any _ _ _ _).mono ?_; rintro e w' ⟨rfl, rfl⟩)
          go_quiet (fail)
          go_wp2_with fail
          go_roundw
          case rel => exact ⟨k + 1, by omega, by go_num, hN, _, by first | rfl | exact drewN2 w m _⟩
          case measure => simp [intOf]; omega
        · obtain ⟨b', off', hA', _, hc'⟩ := HX.out (k - 1) xs[k - 1] (List.getElem?_eq_getElem (by omega))
          injection hA' with hA'
          injection hA' with e1 e2 _
          subst e1 e2
          have hcm : (w.drewN m).cell? ⟨b, off + (k - 1), none⟩ = some (.int .i64 xs[k - 1]) := hc'
          have hbk : before xs k = some xs[k - 1] := by simp only [before]; rw [if_neg hk0]; exact List.getElem?_eq_getElem _
          have hkp : 0 < k := by omega
          by_cases hle : xs[k] ≤ xs[k - 1]
          · have hN : Hid (R = 5) := by show _ = _; rw [hRk.out, hd, hbk]; simp [Pl.risingFrom, ho, hle]
            clear hd hbs hRk hbk
            go_wp2_with (go_at_call 80; refine (among_any _ _ _ _).mono ?_; rintro e w' ⟨rfl, rfl⟩)
            go_quiet (fail)
            go_wp2_with fail
            go_ret
            exact ⟨by rw [hN.out]; rfl, _, by first | rfl | exact drewN2 w m _⟩
          · have hN : Hid (R = Pl.risingFrom 1 hi 1 (before xs (k + 1)) (xs.drop (k + 1))) := by
              show _ = _
              rw [hRk.out, hd, hbs, hbk]
              simp [Pl.risingFrom, ho, hle]
            clear hd hbs hRk hbk
            go_wp2_with (go_at_call 80; refine (among_any _ _ _ _).mono ?_; rintro e w' ⟨rfl, rfl⟩)
            go_quiet (fail)
            go_wp2_with fail
            go_roundw
            case rel => exact ⟨k + 1, by omega, by go_num, hN, _, by first | rfl | exact drewN2 w m _⟩
            case measure => simp [intOf]; omega
      · have hN : Hid (R = 1) := by show _ = _; rw [hRk.out, hd]; simp [Pl.risingFrom, ho]
        clear hd hbs hRk
        go_wp2_with (go_at_call 80; refine (among_any _ _ _ _).mono ?_; rintro e w' ⟨rfl, rfl⟩)
        go_ret
        exact ⟨by rw [hN.out]; rfl, m, rfl⟩
    · have hN : Hid (R = 0) := by show _ = _; rw [hRk.out, List.drop_eq_nil_of_le (by omega)]; simp [Pl.risingFrom]
      have hni : ¬ (k : Int) < (xs.length : Int) := by omega
      clear hRk
      go_wp2_with fail
      go_ret
      exact ⟨by rw [hN.out]; rfl, m, rfl⟩
theorem below_same {B : Nat} {w w' : World} (h : Below B w w') (k : Nat) : Below B w (w'.drewN k) := ⟨h.os, h.tape, h.output, h.size, h.block⟩
set_option maxHeartbeats 1000000 in
theorem rfits_any (c : Pl.Cch) (c_gA c_bA c_hA : Option Addr) (c_gc c_bc c_hc : Nat) (w : World) (hr : CReads w w.heap.size c c_gA c_bA c_hA c_gc c_bc c_hc) :
    Calls Tryz.prog 93 #[.agg #[.slice c_gA c.gauges.length c_gc, .int .i64 c.size, .int .i64 c.load, .slice c_bA c.brakes.length c_bc, .slice c_hA c.heats.length c_hc, .bool c.hooks]] w fun e w' => e = .returned (.int .i64 (Pl.fits c)) ∧ Below w.heap.size w w' := by
  have r1 := fun W => rrising_any c_gA c_gc c.gauges 3 W
  have r2 := fun W => rrising_any c_bA c_bc c.brakes 3 W
  have r3 := fun W => rrising_any c_hA c_hc c.heats 3 W
  have hr' := (hr.alloc (Nat.le_refl _) (.cells #[.slice c_gA c.gauges.length c_gc, .int .i64 c.size, .int .i64 c.load, .slice c_bA c.brakes.length c_bc, .slice c_hA c.heats.length c_hc, .bool c.hooks] 27)).more (B' := (w.alloc (.cells #[.slice c_gA c.gauges.length c_gc, .int .i64 c.size, .int .i64 c.load, .slice c_bA c.brakes.length c_bc, .slice c_hA c.heats.length c_hc, .bool c.hooks] 27)).heap.size) (by simp)
  have lg := hr.lenG
  have lb := hr.lenB
  have lh := hr.lenH
  have R1 := Lib.hid r1; have R2 := Lib.hid r2; have R3 := Lib.hid r3; clear r1 r2 r3
  have Hr := Lib.hid hr'; clear hr' hr
  by_cases h0 : c.gauges.length = 0
  · have hN : Hid (Pl.fits c = 7) := by show _ = _; simp only [Pl.fits]; rw [if_pos (List.eq_nil_of_length_eq_zero h0)]
    have hb : ((c.gauges.length : Int) == 0) = true := by rw [beq_iff_eq]; omega
    have H0 := Lib.hid h0; clear h0
    go_enter Tryz.func93, Tryz.ntmps93
    go_wp2
    go_ret
    exact ⟨by rw [hN.out]; rfl, by first | exact (Below.refl _ _).alloc (Nat.le_refl _) _ | exact below_same ((Below.refl _ _).alloc (Nat.le_refl _) _) _ | exact below_same (below_same ((Below.refl _ _).alloc (Nat.le_refl _) _) _) _ | exact below_same (below_same (below_same ((Below.refl _ _).alloc (Nat.le_refl _) _) _) _) _⟩
  · have hb : ((c.gauges.length : Int) == 0) = false := by rw [beq_eq_false_iff_ne]; omega
    have hne : ¬ c.gauges = [] := fun h => h0 (by rw [h]; rfl)
    by_cases e1 : Pl.rising c.gauges 1 3 1 = 0
    · by_cases o1 : (Pl.out c.size 1 9 || Pl.out c.load 1 20) = true
      · have hN : Hid (Pl.fits c = 1) := by show _ = _; simp only [Pl.fits]; rw [if_neg hne, if_neg (by simp [e1]), if_pos o1]
        cases o2 : Pl.out c.size 1 9
        · have o3 : Pl.out c.load 1 20 = true := by simpa [o2] using o1
          clear h0 hne o1
          go_enter Tryz.func93, Tryz.ntmps93
          go_wp2_with (first | (go_at_call 111; refine (R1.out _ (by first | exact Hr.out.gauges | exact Hr.out.gauges.drewN _ | exact (Hr.out.gauges.drewN _).drewN _) (by omega)).mono ?_; rintro e w' ⟨rfl, _, rfl⟩) | (go_at_call 80; refine (among_any _ _ _ _).mono ?_; rintro e w' ⟨rfl, rfl⟩))
          go_ret
          exact ⟨by rw [hN.out]; rfl, by first | exact (Below.refl _ _).alloc (Nat.le_refl _) _ | exact below_same ((Below.refl _ _).alloc (Nat.le_refl _) _) _ | exact below_same (below_same ((Below.refl _ _).alloc (Nat.le_refl _) _) _) _ | exact below_same (below_same (below_same ((Below.refl _ _).alloc (Nat.le_refl _) _) _) _) _⟩
        · clear h0 hne o1
          go_enter Tryz.func93, Tryz.ntmps93
          go_wp2_with (first | (go_at_call 111; refine (R1.out _ (by first | exact Hr.out.gauges | exact Hr.out.gauges.drewN _ | exact (Hr.out.gauges.drewN _).drewN _) (by omega)).mono ?_; rintro e w' ⟨rfl, _, rfl⟩) | (go_at_call 80; refine (among_any _ _ _ _).mono ?_; rintro e w' ⟨rfl, rfl⟩))
          go_ret
          exact ⟨by rw [hN.out]; rfl, by first | exact (Below.refl _ _).alloc (Nat.le_refl _) _ | exact below_same ((Below.refl _ _).alloc (Nat.le_refl _) _) _ | exact below_same (below_same ((Below.refl _ _).alloc (Nat.le_refl _) _) _) _ | exact below_same (below_same (below_same ((Below.refl _ _).alloc (Nat.le_refl _) _) _) _) _⟩
      · have o2 : Pl.out c.size 1 9 = false := by cases h : Pl.out c.size 1 9 <;> simp_all
        have o3 : Pl.out c.load 1 20 = false := by cases h : Pl.out c.load 1 20 <;> simp_all
        by_cases e2 : Pl.rising c.brakes 1 3 1 = 0
        · have hN : Hid (Pl.fits c = Pl.rising c.heats 1 3 1) := by show _ = _; simp only [Pl.fits]; rw [if_neg hne, if_neg (by simp [e1]), if_neg o1, if_neg (by simp [e2])]
          clear h0 hne o1
          go_enter Tryz.func93, Tryz.ntmps93
          go_wp2_with fail
          refine (R1.out _ (by first | exact Hr.out.gauges | exact Hr.out.gauges.drewN _ | exact (Hr.out.gauges.drewN _).drewN _) (by omega)).mono ?_; rintro e w' ⟨rfl, _, rfl⟩
          go_wp2_with (first | (go_at_call 80; refine (among_any _ _ _ _).mono ?_; rintro e w' ⟨rfl, rfl⟩))
          refine (R2.out _ (by first | exact Hr.out.brakes | exact Hr.out.brakes.drewN _ | exact (Hr.out.brakes.drewN _).drewN _) (by omega)).mono ?_; rintro e w' ⟨rfl, _, rfl⟩
          go_wp2_with fail
          refine (R3.out _ (by first | exact Hr.out.heats | exact Hr.out.heats.drewN _ | exact (Hr.out.heats.drewN _).drewN _) (by omega)).mono ?_; rintro e w' ⟨rfl, _, rfl⟩
          go_wp2_with fail
          go_ret
          exact ⟨by rw [hN.out]; rfl, by first | exact (Below.refl _ _).alloc (Nat.le_refl _) _ | exact below_same ((Below.refl _ _).alloc (Nat.le_refl _) _) _ | exact below_same (below_same ((Below.refl _ _).alloc (Nat.le_refl _) _) _) _ | exact below_same (below_same (below_same ((Below.refl _ _).alloc (Nat.le_refl _) _) _) _) _⟩
        · have hN : Hid (Pl.fits c = Pl.rising c.brakes 1 3 1) := by show _ = _; simp only [Pl.fits]; rw [if_neg hne, if_neg (by simp [e1]), if_neg o1, if_pos (by simp [e2])]
          have hb2 : (Pl.rising c.brakes 1 3 1 != 0) = true := by rw [bne_iff_ne]; exact e2
          clear h0 hne o1 e2
          go_enter Tryz.func93, Tryz.ntmps93
          go_wp2_with fail
          refine (R1.out _ (by first | exact Hr.out.gauges | exact Hr.out.gauges.drewN _ | exact (Hr.out.gauges.drewN _).drewN _) (by omega)).mono ?_; rintro e w' ⟨rfl, _, rfl⟩
          go_wp2_with (first | (go_at_call 80; refine (among_any _ _ _ _).mono ?_; rintro e w' ⟨rfl, rfl⟩))
          refine (R2.out _ (by first | exact Hr.out.brakes | exact Hr.out.brakes.drewN _ | exact (Hr.out.brakes.drewN _).drewN _) (by omega)).mono ?_; rintro e w' ⟨rfl, _, rfl⟩
          go_wp2_with fail
          go_ret
          exact ⟨by rw [hN.out]; rfl, by first | exact (Below.refl _ _).alloc (Nat.le_refl _) _ | exact below_same ((Below.refl _ _).alloc (Nat.le_refl _) _) _ | exact below_same (below_same ((Below.refl _ _).alloc (Nat.le_refl _) _) _) _ | exact below_same (below_same (below_same ((Below.refl _ _).alloc (Nat.le_refl _) _) _) _) _⟩
    · have hN : Hid (Pl.fits c = Pl.rising c.gauges 1 3 1) := by show _ = _; simp only [Pl.fits]; rw [if_neg hne, if_pos (by simp [e1])]
      have hb2 : (Pl.rising c.gauges 1 3 1 != 0) = true := by rw [bne_iff_ne]; exact e1
      clear h0 hne e1
      go_enter Tryz.func93, Tryz.ntmps93
      go_wp2_with fail
      refine (R1.out _ (by first | exact Hr.out.gauges | exact Hr.out.gauges.drewN _ | exact (Hr.out.gauges.drewN _).drewN _) (by omega)).mono ?_; rintro e w' ⟨rfl, _, rfl⟩
      go_wp2_with fail
      go_ret
      exact ⟨by rw [hN.out]; rfl, by first | exact (Below.refl _ _).alloc (Nat.le_refl _) _ | exact below_same ((Below.refl _ _).alloc (Nat.le_refl _) _) _ | exact below_same (below_same ((Below.refl _ _).alloc (Nat.le_refl _) _) _) _ | exact below_same (below_same (below_same ((Below.refl _ _).alloc (Nat.le_refl _) _) _) _) _⟩
end Go.Proofs.YtpbjpochjagicaaGreat

namespace Go.Proofs.YtpbjpochjagicaaGreat
open Go.RowKit

set_option maxRecDepth 100000 in
set_option maxHeartbeats 4000000 in
theorem rcheck_any (n : Pl.Nt) (tA sA : Option Addr) (tc sc : Nat) (w : World) (ht : Trks w w.heap.size tA n.tracks) (hs : Ints w w.heap.size sA n.shops) (hl : n.shops.length ≤ 9223372036854775807) (hl2 : n.tracks.length ≤ 9223372036854775807) :
    Calls Tryz.prog 92 #[.agg #[.int .i64 n.stops, .slice tA n.tracks.length tc, .slice sA n.shops.length sc]] w fun e w' => e = .returned (.int .i64 (Pl.check n)) ∧ Below w.heap.size w w' := by
  obtain ⟨stops, tracks, shops⟩ := n
  simp only at ht hs hl hl2 ⊢
  cases hst : Pl.out stops 1 6
  · by_cases h8 : 8 < tracks.length
    · have hN : Hid (Pl.check ⟨stops, tracks, shops⟩ = 6) := by show _ = _; simp only [Pl.check, hst]; rw [if_neg (by simp), if_pos h8]
      go_enter Tryz.func92, Tryz.ntmps92
      go_wp2_with (go_at_call 80; refine (among_any _ _ _ _).mono ?_; rintro e w' ⟨rfl, rfl⟩)
      go_ret
      exact ⟨by rw [hN.out]; rfl, (Below.refl _ _).alloc (Nat.le_refl _) _⟩
    · have hlo : 1 ≤ stops ∧ stops ≤ 6 := by simp [Pl.out] at hst; exact hst
      obtain ⟨hlo, hhi⟩ := hlo
      have htr : tracks = [] ∨ ∃ b off, tA = some ⟨b, off, none⟩ ∧ b < w.heap.size ∧ ∀ k (hk : k < tracks.length) j v, (trkCells tracks[k])[j]? = some v → w.cell? ⟨b, off + k * 9 + j, none⟩ = some v := by
        rcases ht.cases with h | ⟨b, off, h, hb, hc⟩
        · exact .inl h
        · exact .inr ⟨b, off, h, hb, fun k hk j v hv => hc k _ (List.getElem?_eq_getElem hk) j v hv⟩
      clear ht
      obtain rfl | ⟨b, off, rfl, hbw, hcell⟩ := htr
      · have hN : Hid (Pl.check ⟨stops, [], shops⟩ = Pl.rising shops 0 (stops - 1) 3) := by show _ = _; rw [check_of_shops hst (by simp) rfl]
        go_enter Tryz.func92, Tryz.ntmps92
        go_wp2_with (go_at_call 80; refine (among_any _ _ _ _).mono ?_; rintro e w' ⟨rfl, rfl⟩)
        go_loop [3] (fun i => i = .int .i64 0) (fun _ => 0)
        case atStart => rfl
        case round =>
          obtain rfl := hrel
          have hbx0 := heap_alloc_new w (.cells #[.int .i64 stops, .slice tA 0 tc, .slice sA shops.length sc] 25)
          have hBS : Below w.heap.size w (w.alloc (.cells #[.int .i64 stops, .slice tA 0 tc, .slice sA shops.length sc] 25)) := (Below.refl _ _).alloc (Nat.le_refl _) _
          (try simp only [List.length_nil])
          generalize w.alloc (.cells #[.int .i64 stops, .slice tA 0 tc, .slice sA shops.length sc] 25) = wt at hbx0 hBS ⊢
          have q0 : wt.cell? ⟨w.heap.size, 0, none⟩ = some (.int .i64 stops) := blk_cell hbx0 0
          have q1 : wt.cell? ⟨w.heap.size, 1, none⟩ = some (.slice tA 0 tc) := blk_cell hbx0 1
          have q2 : wt.cell? ⟨w.heap.size, 2, none⟩ = some (.slice sA shops.length sc) := blk_cell hbx0 2
          have hsw : w.heap.size < wt.heap.size := lt_of_block hbx0
          clear hbx0
          have hRS : Hid (Pl.rising shops 0 (stops - 1) 3 = Pl.risingFrom 0 (stops - 1) 3 (before shops 0) (shops.drop 0)) := rfl
          have HBS := Lib.hid hBS
          go_wp2_with fail
          go_loopw [5] (fun iv wr => ∃ k : Nat, k ≤ shops.length ∧ iv = .int .i64 k ∧ Hid (Pl.rising shops 0 (stops - 1) 3 = Pl.risingFrom 0 (stops - 1) 3 (before shops k) (shops.drop k)) ∧ Hid (Below wt.heap.size wt wr)) (fun i _ => shops.length - (intOf i).toNat)
          case atStart => exact ⟨0, Nat.zero_le _, rfl, hRS, Below.refl _ _⟩
          case round =>
            obtain ⟨k, hk, rfl, hRk, hBw⟩ := hrel
            clear hRS
            have HW := Lib.hid (HBS.out.trans (hBw.out.mono HBS.out.size))
            have hswr := hBw.out.size
            replace q0 := (hBw.out.cell (p := ⟨w.heap.size, 0, none⟩) hsw).trans q0
            replace q2 := (hBw.out.cell (p := ⟨w.heap.size, 2, none⟩) hsw).trans q2
            have hsw2 : w.heap.size < wr.heap.size := by omega
            by_cases hlt2 : k < shops.length
            · have hki : (k : Int) < (shops.length : Int) := by omega
              obtain ⟨b3, off3, hA, hb3, hc3⟩ := hs k shops[k] (List.getElem?_eq_getElem hlt2)
              subst hA
              have hck : wr.cell? ⟨b3, off3 + k, none⟩ = some (.int .i64 shops[k]) := (HW.out.cell (p := ⟨b3, off3 + k, none⟩) hb3).trans hc3
              have hbr : b3 < wr.heap.size := by have h := HW.out.size; omega
              have hd : shops.drop k = shops[k] :: shops.drop (k + 1) := List.drop_eq_getElem_cons hlt2
              have hbs : before shops (k + 1) = some shops[k] := by rw [before_succ]; exact List.getElem?_eq_getElem hlt2
              cases ho : Pl.out shops[k] 0 (stops - 1)
              · by_cases hk0 : k = 0
                · have hN2 : Hid (Pl.rising shops 0 (stops - 1) 3 = Pl.risingFrom 0 (stops - 1) 3 (before shops (k + 1)) (shops.drop (k + 1))) := by
                    show _ = _
                    have h0 : before shops k = none := by simp [before, hk0]
                    rw [hRk.out, hd, hbs, h0]
                    simp [Pl.risingFrom, ho]
                  have hkz : ¬ 0 < k := by omega
                  clear hk0
                  clear hd hbs hRk
                  go_wp2_with fail
                  go_quiet (first | (go_at_call 80; with_reducible refine quiet_left (among_any _ _ _ _)))
                  go_wp2_with fail
                  go_quiet (fail)
                  go_wp2_with fail
                  go_roundw
                  case rel => exact ⟨k + 1, by omega, by go_num, hN2, (by show Below _ _ _; first | exact below_same hBw.out _ | exact below_same (below_same hBw.out _) _)⟩
                  case measure => simp [intOf]; omega
                · obtain ⟨b', off', hA', _, hc'⟩ := hs (k - 1) shops[k - 1] (List.getElem?_eq_getElem (by omega))
                  injection hA' with hA'
                  injection hA' with e1 e2 _
                  subst e1 e2
                  have hcm : wr.cell? ⟨b3, off3 + (k - 1), none⟩ = some (.int .i64 shops[k - 1]) := (HW.out.cell (p := ⟨b3, off3 + (k - 1), none⟩) hb3).trans hc'
                  have hbk : before shops k = some shops[k - 1] := by simp only [before]; rw [if_neg hk0]; exact List.getElem?_eq_getElem _
                  have hkp : 0 < k := by omega
                  by_cases hle : shops[k] ≤ shops[k - 1]
                  · have hN2 : Hid (Pl.rising shops 0 (stops - 1) 3 = 5) := by show _ = _; rw [hRk.out, hd, hbk]; simp [Pl.risingFrom, ho, hle]
                    clear hd hbs hRk hbk
                    go_wp2_with fail
                    go_quiet (first | (go_at_call 80; with_reducible refine quiet_left (among_any _ _ _ _)))
                    go_wp2_with fail
                    go_quiet (fail)
                    go_wp2_with fail
                    go_ret
                    exact ⟨by rw [hN.out, hN2.out]; rfl, by first | exact below_same HW.out _ | exact below_same (below_same HW.out _) _⟩
                  · have hN2 : Hid (Pl.rising shops 0 (stops - 1) 3 = Pl.risingFrom 0 (stops - 1) 3 (before shops (k + 1)) (shops.drop (k + 1))) := by
                      show _ = _
                      rw [hRk.out, hd, hbs, hbk]
                      simp [Pl.risingFrom, ho, hle]
                    clear hd hbs hRk hbk
                    go_wp2_with fail
                    go_quiet (first | (go_at_call 80; with_reducible refine quiet_left (among_any _ _ _ _)))
                    go_wp2_with fail
                    go_quiet (fail)
                    go_wp2_with fail
                    go_roundw
                    case rel => exact ⟨k + 1, by omega, by go_num, hN2, (by show Below _ _ _; first | exact below_same hBw.out _ | exact below_same (below_same hBw.out _) _)⟩
                    case measure => simp [intOf]; omega
              · have hN2 : Hid (Pl.rising shops 0 (stops - 1) 3 = 3) := by show _ = _; rw [hRk.out, hd]; simp [Pl.risingFrom, ho]
                clear hd hbs hRk
                go_wp2_with fail
                go_quiet (first | (go_at_call 80; with_reducible refine quiet_left (among_any _ _ _ _)))
                go_wp2_with fail
                go_ret
                exact ⟨by rw [hN.out, hN2.out]; rfl, by first | exact below_same HW.out _ | exact below_same (below_same HW.out _) _⟩
            · have hN2 : Hid (Pl.rising shops 0 (stops - 1) 3 = 0) := by show _ = _; rw [hRk.out, List.drop_eq_nil_of_le (by omega)]; simp [Pl.risingFrom]
              have hni : ¬ (k : Int) < (shops.length : Int) := by omega
              clear hRk
              go_wp2_with fail
              go_ret
              exact ⟨by rw [hN.out, hN2.out]; rfl, HW.out⟩
      · have hR : Hid (Pl.tracksErr stops tracks = Pl.tracksErr stops (tracks.drop 0)) := rfl
        go_enter Tryz.func92, Tryz.ntmps92
        go_wp2_with (go_at_call 80; refine (among_any _ _ _ _).mono ?_; rintro e w' ⟨rfl, rfl⟩)
        go_loopw [3] (fun i wr => ∃ k : Nat, k ≤ tracks.length ∧ i = .int .i64 k ∧ Below (w.heap.size + 1) (w.alloc (.cells #[.int .i64 stops, .slice (some ⟨b, off, none⟩) tracks.length tc, .slice sA shops.length sc] 25)) wr ∧ Hid (Pl.tracksErr stops tracks = Pl.tracksErr stops (tracks.drop k))) (fun i _ => tracks.length - (intOf i).toNat)
        case atStart => exact ⟨0, Nat.zero_le _, rfl, Below.refl _ _, hR⟩
        case round =>
          obtain ⟨k, hk, rfl, hbel, hRk⟩ := hrel
          clear hR
          have hsz : w.heap.size + 1 ≤ wr.heap.size := by have := hbel.size; simpa using this
          have hsz' : w.heap.size < wr.heap.size := by omega
          have q0 : wr.cell? ⟨w.heap.size, 0, none⟩ = some (.int .i64 stops) := (hbel.cell (p := ⟨_, 0, none⟩) (by simp)).trans (by simp)
          have q1 : wr.cell? ⟨w.heap.size, 1, none⟩ = some (.slice (some ⟨b, off, none⟩) tracks.length tc) := (hbel.cell (p := ⟨_, 1, none⟩) (by simp)).trans (by simp)
          have q2 : wr.cell? ⟨w.heap.size, 2, none⟩ = some (.slice sA shops.length sc) := (hbel.cell (p := ⟨_, 2, none⟩) (by simp)).trans (by simp)
          have hW : Below w.heap.size w wr := ((Below.refl w.heap.size w).alloc (Nat.le_refl _) _).trans (hbel.mono (by omega))
          by_cases hlt : k < tracks.length
          · have hbr : b < wr.heap.size := by omega
            obtain ⟨c0, c1, c2, c3, c4, c5, c6, c7, c8⟩ := trk_cells (w := wr) (b := b) (o := off + k * 9) (t := tracks[k]) (fun j v hv => (hbel.cell (p := ⟨b, off + k * 9 + j, none⟩) (by show b < _; omega)).trans ((World.cell?_alloc_lt w _ _ (by show b < _; omega)).trans (hcell k hlt j v hv)))
            clear hcell
            generalize htk : tracks[k] = t at c0 c1 c2 c3 c4 c5 c6 c7 c8
            have Htk : Hid (tracks[k] = t) := htk
            clear htk
            cases g0 : Pl.out t.a 0 (stops - 1)
            · skip
              cases g1 : Pl.out t.b 0 (stops - 1)
              · skip
                cases g2 : (t.a == t.b)
                · have g2' : ¬ t.a = t.b := by simpa using g2
                  cases g3 : Pl.out t.km 1 99
                  · skip
                    cases g4 : Pl.out t.gauge 1 3
                    · skip
                      cases g5 : Pl.out t.room 1 9
                      · skip
                        cases g6 : Pl.out t.brake 0 3
                        · skip
                          cases g7 : Pl.out t.heat 0 3
                          · skip
                            cases g8 : Pl.out t.load 1 20
                            · skip
                              have hE : Pl.trackErr stops tracks[k] = 0 := by rw [Htk.out]; simp [Pl.trackErr, g0, g1, g2', g3, g4, g5, g6, g7, g8]
                              have hN : Hid (Pl.tracksErr stops tracks = Pl.tracksErr stops (tracks.drop (k + 1))) := by show _ = _; rw [hRk.out, tracksErr_zero _ _ _ hlt hE]
                              clear hE hRk
                              go_wp2_with (go_at_call 80; refine (among_any _ _ _ _).mono ?_; rintro e w' ⟨rfl, rfl⟩)
                              go_roundw
                              case rel => exact ⟨k + 1, by omega, by go_num, hbel.alloc hsz _, hN⟩
                              case measure => simp [intOf]; omega
                            · skip
                              have hE : Pl.trackErr stops tracks[k] = 1 := by rw [Htk.out]; simp [Pl.trackErr, g0, g1, g2', g3, g4, g5, g6, g7, g8]
                              have hN : Hid (Pl.check ⟨stops, tracks, shops⟩ = 1) := by
                                have hE2 : Pl.tracksErr stops tracks = 1 := by rw [hRk.out, tracksErr_not _ _ _ hlt (by rw [hE]; decide), hE]
                                show _ = _; rw [check_of_tracks hst (by omega) (by rw [hE2]; decide), hE2]
                              clear hE hRk
                              go_wp2_with (go_at_call 80; refine (among_any _ _ _ _).mono ?_; rintro e w' ⟨rfl, rfl⟩)
                              go_ret
                              exact ⟨by rw [hN.out]; rfl, hW.alloc (by omega) _⟩
                          · skip
                            have hE : Pl.trackErr stops tracks[k] = 1 := by rw [Htk.out]; simp [Pl.trackErr, g0, g1, g2', g3, g4, g5, g6, g7]
                            have hN : Hid (Pl.check ⟨stops, tracks, shops⟩ = 1) := by
                              have hE2 : Pl.tracksErr stops tracks = 1 := by rw [hRk.out, tracksErr_not _ _ _ hlt (by rw [hE]; decide), hE]
                              show _ = _; rw [check_of_tracks hst (by omega) (by rw [hE2]; decide), hE2]
                            clear hE hRk
                            go_wp2_with (go_at_call 80; refine (among_any _ _ _ _).mono ?_; rintro e w' ⟨rfl, rfl⟩)
                            go_ret
                            exact ⟨by rw [hN.out]; rfl, hW.alloc (by omega) _⟩
                        · skip
                          have hE : Pl.trackErr stops tracks[k] = 1 := by rw [Htk.out]; simp [Pl.trackErr, g0, g1, g2', g3, g4, g5, g6]
                          have hN : Hid (Pl.check ⟨stops, tracks, shops⟩ = 1) := by
                            have hE2 : Pl.tracksErr stops tracks = 1 := by rw [hRk.out, tracksErr_not _ _ _ hlt (by rw [hE]; decide), hE]
                            show _ = _; rw [check_of_tracks hst (by omega) (by rw [hE2]; decide), hE2]
                          clear hE hRk
                          go_wp2_with (go_at_call 80; refine (among_any _ _ _ _).mono ?_; rintro e w' ⟨rfl, rfl⟩)
                          go_ret
                          exact ⟨by rw [hN.out]; rfl, hW.alloc (by omega) _⟩
                      · skip
                        have hE : Pl.trackErr stops tracks[k] = 1 := by rw [Htk.out]; simp [Pl.trackErr, g0, g1, g2', g3, g4, g5]
                        have hN : Hid (Pl.check ⟨stops, tracks, shops⟩ = 1) := by
                          have hE2 : Pl.tracksErr stops tracks = 1 := by rw [hRk.out, tracksErr_not _ _ _ hlt (by rw [hE]; decide), hE]
                          show _ = _; rw [check_of_tracks hst (by omega) (by rw [hE2]; decide), hE2]
                        clear hE hRk
                        go_wp2_with (go_at_call 80; refine (among_any _ _ _ _).mono ?_; rintro e w' ⟨rfl, rfl⟩)
                        go_ret
                        exact ⟨by rw [hN.out]; rfl, hW.alloc (by omega) _⟩
                    · skip
                      have hE : Pl.trackErr stops tracks[k] = 1 := by rw [Htk.out]; simp [Pl.trackErr, g0, g1, g2', g3, g4]
                      have hN : Hid (Pl.check ⟨stops, tracks, shops⟩ = 1) := by
                        have hE2 : Pl.tracksErr stops tracks = 1 := by rw [hRk.out, tracksErr_not _ _ _ hlt (by rw [hE]; decide), hE]
                        show _ = _; rw [check_of_tracks hst (by omega) (by rw [hE2]; decide), hE2]
                      clear hE hRk
                      go_wp2_with (go_at_call 80; refine (among_any _ _ _ _).mono ?_; rintro e w' ⟨rfl, rfl⟩)
                      go_ret
                      exact ⟨by rw [hN.out]; rfl, hW.alloc (by omega) _⟩
                  · skip
                    have hE : Pl.trackErr stops tracks[k] = 1 := by rw [Htk.out]; simp [Pl.trackErr, g0, g1, g2', g3]
                    have hN : Hid (Pl.check ⟨stops, tracks, shops⟩ = 1) := by
                      have hE2 : Pl.tracksErr stops tracks = 1 := by rw [hRk.out, tracksErr_not _ _ _ hlt (by rw [hE]; decide), hE]
                      show _ = _; rw [check_of_tracks hst (by omega) (by rw [hE2]; decide), hE2]
                    clear hE hRk
                    go_wp2_with (go_at_call 80; refine (among_any _ _ _ _).mono ?_; rintro e w' ⟨rfl, rfl⟩)
                    go_ret
                    exact ⟨by rw [hN.out]; rfl, hW.alloc (by omega) _⟩
                · have g2' : t.a = t.b := by simpa using g2
                  have g2h := Lib.hid g2'; clear g2'
                  have hE : Pl.trackErr stops tracks[k] = 4 := by rw [Htk.out]; simp [Pl.trackErr, g1, g2h.out]
                  have hN : Hid (Pl.check ⟨stops, tracks, shops⟩ = 4) := by
                    have hE2 : Pl.tracksErr stops tracks = 4 := by rw [hRk.out, tracksErr_not _ _ _ hlt (by rw [hE]; decide), hE]
                    show _ = _; rw [check_of_tracks hst (by omega) (by rw [hE2]; decide), hE2]
                  clear hE hRk
                  go_wp2_with (go_at_call 80; refine (among_any _ _ _ _).mono ?_; rintro e w' ⟨rfl, rfl⟩)
                  go_ret
                  exact ⟨by rw [hN.out]; rfl, hW.alloc (by omega) _⟩
              · skip
                have hE : Pl.trackErr stops tracks[k] = 3 := by rw [Htk.out]; simp [Pl.trackErr, g0, g1]
                have hN : Hid (Pl.check ⟨stops, tracks, shops⟩ = 3) := by
                  have hE2 : Pl.tracksErr stops tracks = 3 := by rw [hRk.out, tracksErr_not _ _ _ hlt (by rw [hE]; decide), hE]
                  show _ = _; rw [check_of_tracks hst (by omega) (by rw [hE2]; decide), hE2]
                clear hE hRk
                go_wp2_with (go_at_call 80; refine (among_any _ _ _ _).mono ?_; rintro e w' ⟨rfl, rfl⟩)
                go_ret
                exact ⟨by rw [hN.out]; rfl, hW.alloc (by omega) _⟩
            · skip
              have hE : Pl.trackErr stops tracks[k] = 3 := by rw [Htk.out]; simp [Pl.trackErr, g0]
              have hN : Hid (Pl.check ⟨stops, tracks, shops⟩ = 3) := by
                have hE2 : Pl.tracksErr stops tracks = 3 := by rw [hRk.out, tracksErr_not _ _ _ hlt (by rw [hE]; decide), hE]
                show _ = _; rw [check_of_tracks hst (by omega) (by rw [hE2]; decide), hE2]
              clear hE hRk
              go_wp2_with (go_at_call 80; refine (among_any _ _ _ _).mono ?_; rintro e w' ⟨rfl, rfl⟩)
              go_ret
              exact ⟨by rw [hN.out]; rfl, hW.alloc (by omega) _⟩
          · have hE2 : Pl.tracksErr stops tracks = 0 := by rw [hRk.out, List.drop_eq_nil_of_le (by omega)]; rfl
            have hN : Hid (Pl.check ⟨stops, tracks, shops⟩ = Pl.rising shops 0 (stops - 1) 3) := by show _ = _; rw [check_of_shops hst (by omega) hE2]
            clear hE2 hRk hcell
            obtain ⟨wt, hwt⟩ : ∃ wt, wt = wr := ⟨_, rfl⟩
            subst hwt
            have hBS := hW
            have hsw : w.heap.size < wt.heap.size := hsz'
            have hRS : Hid (Pl.rising shops 0 (stops - 1) 3 = Pl.risingFrom 0 (stops - 1) 3 (before shops 0) (shops.drop 0)) := rfl
            have HBS := Lib.hid hBS
            go_wp2_with fail
            go_loopw [5] (fun iv wr => ∃ k : Nat, k ≤ shops.length ∧ iv = .int .i64 k ∧ Hid (Pl.rising shops 0 (stops - 1) 3 = Pl.risingFrom 0 (stops - 1) 3 (before shops k) (shops.drop k)) ∧ Hid (Below wt.heap.size wt wr)) (fun i _ => shops.length - (intOf i).toNat)
            case atStart => exact ⟨0, Nat.zero_le _, rfl, hRS, Below.refl _ _⟩
            case round =>
              obtain ⟨k, hk, rfl, hRk, hBw⟩ := hrel
              clear hRS
              have HW := Lib.hid (HBS.out.trans (hBw.out.mono HBS.out.size))
              have hswr := hBw.out.size
              replace q0 := (hBw.out.cell (p := ⟨w.heap.size, 0, none⟩) hsw).trans q0
              replace q2 := (hBw.out.cell (p := ⟨w.heap.size, 2, none⟩) hsw).trans q2
              have hsw2 : w.heap.size < wr.heap.size := by omega
              by_cases hlt2 : k < shops.length
              · have hki : (k : Int) < (shops.length : Int) := by omega
                obtain ⟨b3, off3, hA, hb3, hc3⟩ := hs k shops[k] (List.getElem?_eq_getElem hlt2)
                subst hA
                have hck : wr.cell? ⟨b3, off3 + k, none⟩ = some (.int .i64 shops[k]) := (HW.out.cell (p := ⟨b3, off3 + k, none⟩) hb3).trans hc3
                have hbr : b3 < wr.heap.size := by have h := HW.out.size; omega
                have hd : shops.drop k = shops[k] :: shops.drop (k + 1) := List.drop_eq_getElem_cons hlt2
                have hbs : before shops (k + 1) = some shops[k] := by rw [before_succ]; exact List.getElem?_eq_getElem hlt2
                cases ho : Pl.out shops[k] 0 (stops - 1)
                · by_cases hk0 : k = 0
                  · have hN2 : Hid (Pl.rising shops 0 (stops - 1) 3 = Pl.risingFrom 0 (stops - 1) 3 (before shops (k + 1)) (shops.drop (k + 1))) := by
                      show _ = _
                      have h0 : before shops k = none := by simp [before, hk0]
                      rw [hRk.out, hd, hbs, h0]
                      simp [Pl.risingFrom, ho]
                    have hkz : ¬ 0 < k := by omega
                    clear hk0
                    clear hd hbs hRk
                    go_wp2_with fail
                    go_quiet (first | (go_at_call 80; with_reducible refine quiet_left (among_any _ _ _ _)))
                    go_wp2_with fail
                    go_quiet (fail)
                    go_wp2_with fail
                    go_roundw
                    case rel => exact ⟨k + 1, by omega, by go_num, hN2, (by show Below _ _ _; first | exact below_same hBw.out _ | exact below_same (below_same hBw.out _) _)⟩
                    case measure => simp [intOf]; omega
                  · obtain ⟨b', off', hA', _, hc'⟩ := hs (k - 1) shops[k - 1] (List.getElem?_eq_getElem (by omega))
                    injection hA' with hA'
                    injection hA' with e1 e2 _
                    subst e1 e2
                    have hcm : wr.cell? ⟨b3, off3 + (k - 1), none⟩ = some (.int .i64 shops[k - 1]) := (HW.out.cell (p := ⟨b3, off3 + (k - 1), none⟩) hb3).trans hc'
                    have hbk : before shops k = some shops[k - 1] := by simp only [before]; rw [if_neg hk0]; exact List.getElem?_eq_getElem _
                    have hkp : 0 < k := by omega
                    by_cases hle : shops[k] ≤ shops[k - 1]
                    · have hN2 : Hid (Pl.rising shops 0 (stops - 1) 3 = 5) := by show _ = _; rw [hRk.out, hd, hbk]; simp [Pl.risingFrom, ho, hle]
                      clear hd hbs hRk hbk
                      go_wp2_with fail
                      go_quiet (first | (go_at_call 80; with_reducible refine quiet_left (among_any _ _ _ _)))
                      go_wp2_with fail
                      go_quiet (fail)
                      go_wp2_with fail
                      go_ret
                      exact ⟨by rw [hN.out, hN2.out]; rfl, by first | exact below_same HW.out _ | exact below_same (below_same HW.out _) _⟩
                    · have hN2 : Hid (Pl.rising shops 0 (stops - 1) 3 = Pl.risingFrom 0 (stops - 1) 3 (before shops (k + 1)) (shops.drop (k + 1))) := by
                        show _ = _
                        rw [hRk.out, hd, hbs, hbk]
                        simp [Pl.risingFrom, ho, hle]
                      clear hd hbs hRk hbk
                      go_wp2_with fail
                      go_quiet (first | (go_at_call 80; with_reducible refine quiet_left (among_any _ _ _ _)))
                      go_wp2_with fail
                      go_quiet (fail)
                      go_wp2_with fail
                      go_roundw
                      case rel => exact ⟨k + 1, by omega, by go_num, hN2, (by show Below _ _ _; first | exact below_same hBw.out _ | exact below_same (below_same hBw.out _) _)⟩
                      case measure => simp [intOf]; omega
                · have hN2 : Hid (Pl.rising shops 0 (stops - 1) 3 = 3) := by show _ = _; rw [hRk.out, hd]; simp [Pl.risingFrom, ho]
                  clear hd hbs hRk
                  go_wp2_with fail
                  go_quiet (first | (go_at_call 80; with_reducible refine quiet_left (among_any _ _ _ _)))
                  go_wp2_with fail
                  go_ret
                  exact ⟨by rw [hN.out, hN2.out]; rfl, by first | exact below_same HW.out _ | exact below_same (below_same HW.out _) _⟩
              · have hN2 : Hid (Pl.rising shops 0 (stops - 1) 3 = 0) := by show _ = _; rw [hRk.out, List.drop_eq_nil_of_le (by omega)]; simp [Pl.risingFrom]
                have hni : ¬ (k : Int) < (shops.length : Int) := by omega
                clear hRk
                go_wp2_with fail
                go_ret
                exact ⟨by rw [hN.out, hN2.out]; rfl, HW.out⟩
  · have hN : Hid (Pl.check ⟨stops, tracks, shops⟩ = 1) := by show _ = _; simp only [Pl.check, hst]; rw [if_pos trivial]
    go_enter Tryz.func92, Tryz.ntmps92
    go_wp2_with (go_at_call 80; refine (among_any _ _ _ _).mono ?_; rintro e w' ⟨rfl, rfl⟩)
    go_ret
    exact ⟨by rw [hN.out]; rfl, (Below.refl _ _).alloc (Nat.le_refl _) _⟩

set_option maxHeartbeats 1000000 in
theorem rboth_any (n : Pl.Nt) (n_tA n_sA : Option Addr) (n_tc n_sc : Nat) (c : Pl.Cch) (c_gA c_bA c_hA : Option Addr) (c_gc c_bc c_hc : Nat) (w : World) (hn : NReads w w.heap.size n n_tA n_sA n_tc n_sc) (hr : CReads w w.heap.size c c_gA c_bA c_hA c_gc c_bc c_hc) :
    Calls Tryz.prog 79 #[.agg #[.int .i64 n.stops, .slice n_tA n.tracks.length n_tc, .slice n_sA n.shops.length n_sc], .agg #[.slice c_gA c.gauges.length c_gc, .int .i64 c.size, .int .i64 c.load, .slice c_bA c.brakes.length c_bc, .slice c_hA c.heats.length c_hc, .bool c.hooks]] w fun e w' => e = .returned (.int .i64 (Pl.both n c)) ∧ Below w.heap.size w w' := by
  have hn' := (hn.alloc (Nat.le_refl _) (.cells #[.int .i64 n.stops, .slice n_tA n.tracks.length n_tc, .slice n_sA n.shops.length n_sc] 25)).alloc (by simp) (.cells #[.slice c_gA c.gauges.length c_gc, .int .i64 c.size, .int .i64 c.load, .slice c_bA c.brakes.length c_bc, .slice c_hA c.heats.length c_hc, .bool c.hooks] 27)
  have hr' := (hr.alloc (Nat.le_refl _) (.cells #[.int .i64 n.stops, .slice n_tA n.tracks.length n_tc, .slice n_sA n.shops.length n_sc] 25)).alloc (by simp) (.cells #[.slice c_gA c.gauges.length c_gc, .int .i64 c.size, .int .i64 c.load, .slice c_bA c.brakes.length c_bc, .slice c_hA c.heats.length c_hc, .bool c.hooks] 27)
  have Hn := Lib.hid (hn'.more (B' := w.heap.size + 1 + 1) (by omega)); have Hr := Lib.hid (hr'.more (B' := w.heap.size + 1 + 1) (by omega)); clear hn hn' hr hr'
  by_cases e1 : Pl.check n = 0
  · have hN : Hid (Pl.both n c = Pl.fits c) := by show _ = _; simp only [Pl.both]; rw [if_neg (by simp [e1])]
    go_enter Tryz.func79, Tryz.ntmps79
    go_wp2_with fail
    refine (rcheck_any n n_tA n_sA n_tc n_sc _ (by simpa using Hn.out.tracks) (by simpa using Hn.out.shops) (by have := Hn.out.lenS; omega) (by have := Hn.out.lenT; omega)).mono ?_
    rintro e w1 ⟨rfl, hb⟩
    obtain ⟨hc, hf⟩ := bcell hb
    have hr2 := Hr.out.below (by simpa using hb)
    have hz : w.heap.size + 1 + 1 ≤ w1.heap.size := by have := hb.size; simp at this; omega
    have Hr2 := Lib.hid (hr2.more hz); clear hr2
    go_wp2_with fail
    refine (rfits_any c c_gA c_bA c_hA c_gc c_bc c_hc _ Hr2.out).mono ?_
    rintro e w2 ⟨rfl, hb2⟩
    go_wp2_with fail
    go_ret
    exact ⟨by rw [hN.out]; rfl, ((((Below.refl _ _).alloc (Nat.le_refl _) _).alloc (by simp) _).trans (hb.mono (by simp; omega))).trans (hb2.mono (by omega))⟩
  · have hN : Hid (Pl.both n c = Pl.check n) := by show _ = _; simp only [Pl.both]; rw [if_pos e1]
    have hb2 : (Pl.check n != 0) = true := by rw [bne_iff_ne]; exact e1
    clear e1
    go_enter Tryz.func79, Tryz.ntmps79
    go_wp2_with fail
    refine (rcheck_any n n_tA n_sA n_tc n_sc _ (by simpa using Hn.out.tracks) (by simpa using Hn.out.shops) (by have := Hn.out.lenS; omega) (by have := Hn.out.lenT; omega)).mono ?_
    rintro e w1 ⟨rfl, hb⟩
    go_wp2_with fail
    go_ret
    exact ⟨by rw [hN.out]; rfl, (((Below.refl _ _).alloc (Nat.le_refl _) _).alloc (by simp) _).trans (hb.mono (by simp; omega))⟩

end Go.Proofs.YtpbjpochjagicaaGreat
