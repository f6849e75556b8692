/- Walks: nets and cars are checked. -/
import Derived.Test.YtpbjpochjagicaaGreatDoorRRWd
namespace Go.Proofs.YtpbjpochjagicaaGreatDoorRR
open Go.RowKit

theorem trk_cells {w : World} {b o : Nat} {t : Pl.Trk} (h : ∀ j v, (trkCells t)[j]? = some v → w.cell? ⟨b, o + j, none⟩ = some v) :
    w.cell? ⟨b, o, none⟩ = some (.int .i64 t.a) ∧ w.cell? ⟨b, o + 1, none⟩ = some (.int .i64 t.b) ∧ w.cell? ⟨b, o + 2, none⟩ = some (.int .i64 t.km) ∧
    w.cell? ⟨b, o + 3, none⟩ = some (.int .i64 t.gauge) ∧ w.cell? ⟨b, o + 4, none⟩ = some (.int .i64 t.room) ∧ w.cell? ⟨b, o + 5, none⟩ = some (.int .i64 t.brake) ∧
    w.cell? ⟨b, o + 6, none⟩ = some (.int .i64 t.heat) ∧ w.cell? ⟨b, o + 7, none⟩ = some (.int .i64 t.load) ∧ w.cell? ⟨b, o + 8, none⟩ = some (.bool t.ferry) :=
  ⟨h 0 _ rfl, h 1 _ rfl, h 2 _ rfl, h 3 _ rfl, h 4 _ rfl, h 5 _ rfl, h 6 _ rfl, h 7 _ rfl, h 8 _ rfl⟩

theorem tracksErr_zero (s : Int) (ts : List Pl.Trk) (k : Nat) (hk : k < ts.length) (h : Pl.trackErr s ts[k] = 0) : Pl.tracksErr s (ts.drop k) = Pl.tracksErr s (ts.drop (k + 1)) := by
  rw [List.drop_eq_getElem_cons hk, Pl.tracksErr, if_pos h]
theorem tracksErr_not (s : Int) (ts : List Pl.Trk) (k : Nat) (hk : k < ts.length) (h : Pl.trackErr s ts[k] ≠ 0) : Pl.tracksErr s (ts.drop k) = Pl.trackErr s ts[k] := by
  rw [List.drop_eq_getElem_cons hk, Pl.tracksErr, if_neg h]
theorem check_of_tracks {s : Int} {ts : List Pl.Trk} {sh : List Int} (h1 : Pl.out s 1 6 = false) (h2 : ts.length ≤ 8) (h : Pl.tracksErr s ts ≠ 0) : Pl.check ⟨s, ts, sh⟩ = Pl.tracksErr s ts := by
  simp only [Pl.check, h1]; rw [if_neg (by simp), if_neg (by omega), if_neg h]
theorem check_of_shops {s : Int} {ts : List Pl.Trk} {sh : List Int} (h1 : Pl.out s 1 6 = false) (h2 : ts.length ≤ 8) (h : Pl.tracksErr s ts = 0) : Pl.check ⟨s, ts, sh⟩ = Pl.rising sh 0 (s - 1) 3 := by
  simp only [Pl.check, h1]; rw [if_neg (by simp), if_neg (by omega), if_pos h]

set_option maxRecDepth 100000 in
set_option maxHeartbeats 4000000 in
theorem check_any (n : Pl.Nt) (tA sA : Option Addr) (tc sc : Nat) (w : World) (ht : Trks w w.heap.size tA n.tracks) (hs : Ints w w.heap.size sA n.shops) (hl : n.shops.length ≤ 9223372036854775807) (hl2 : n.tracks.length ≤ 9223372036854775807) :
    Calls Tryz.prog 7 #[.agg #[.int .i64 n.stops, .slice tA n.tracks.length tc, .slice sA n.shops.length sc]] w fun e w' => e = .returned (.int .i64 (Pl.check n)) ∧ Below w.heap.size w w' := by
  obtain ⟨stops, tracks, shops⟩ := n
  simp only at ht hs hl hl2 ⊢
  cases hst : Pl.out stops 1 6
  · by_cases h8 : 8 < tracks.length
    · have hN : Hid (Pl.check ⟨stops, tracks, shops⟩ = 6) := by show _ = _; simp only [Pl.check, hst]; rw [if_neg (by simp), if_pos h8]
      go_enter Tryz.func7, Tryz.ntmps7
      go_wp2_with (go_at_call 22; refine (out_any _ _ _ _).mono ?_; rintro e w' ⟨rfl, rfl⟩)
      go_ret
      exact ⟨by rw [hN.out]; rfl, (Below.refl _ _).alloc (Nat.le_refl _) _⟩
    · have hlo : 1 ≤ stops ∧ stops ≤ 6 := by simp [Pl.out] at hst; exact hst
      obtain ⟨hlo, hhi⟩ := hlo
      have htr : tracks = [] ∨ ∃ b off, tA = some ⟨b, off, none⟩ ∧ b < w.heap.size ∧ ∀ k (hk : k < tracks.length) j v, (trkCells tracks[k])[j]? = some v → w.cell? ⟨b, off + k * 9 + j, none⟩ = some v := by
        rcases ht.cases with h | ⟨b, off, h, hb, hc⟩
        · exact .inl h
        · exact .inr ⟨b, off, h, hb, fun k hk j v hv => hc k _ (List.getElem?_eq_getElem hk) j v hv⟩
      clear ht
      obtain rfl | ⟨b, off, rfl, hbw, hcell⟩ := htr
      · have hN : Hid (Pl.check ⟨stops, [], shops⟩ = Pl.rising shops 0 (stops - 1) 3) := by show _ = _; rw [check_of_shops hst (by simp) rfl]
        go_enter Tryz.func7, Tryz.ntmps7
        go_wp2_with (go_at_call 22; refine (out_any _ _ _ _).mono ?_; rintro e w' ⟨rfl, rfl⟩)
        go_loop [17] (fun i => i = .int .i64 0) (fun _ => 0)
        case atStart => rfl
        case round =>
          obtain rfl := hrel
          go_wp2_with (go_at_call 23; refine (rising_any _ _ _ _ _ _ w.heap.size _ (hs.alloc (Nat.le_refl _) _) hl).mono ?_; rintro e w' ⟨rfl, rfl⟩)
          go_ret
          exact ⟨by rw [hN.out]; rfl, (Below.refl _ _).alloc (Nat.le_refl _) _⟩
      · have hR : Hid (Pl.tracksErr stops tracks = Pl.tracksErr stops (tracks.drop 0)) := rfl
        go_enter Tryz.func7, Tryz.ntmps7
        go_wp2_with (go_at_call 22; refine (out_any _ _ _ _).mono ?_; rintro e w' ⟨rfl, rfl⟩)
        go_loopw [17] (fun i wr => ∃ k : Nat, k ≤ tracks.length ∧ i = .int .i64 k ∧ Below (w.heap.size + 1) (w.alloc (.cells #[.int .i64 stops, .slice (some ⟨b, off, none⟩) tracks.length tc, .slice sA shops.length sc] 25)) wr ∧ Hid (Pl.tracksErr stops tracks = Pl.tracksErr stops (tracks.drop k))) (fun i _ => tracks.length - (intOf i).toNat)
        case atStart => exact ⟨0, Nat.zero_le _, rfl, Below.refl _ _, hR⟩
        case round =>
          obtain ⟨k, hk, rfl, hbel, hRk⟩ := hrel
          clear hR
          have hsz : w.heap.size + 1 ≤ wr.heap.size := by have := hbel.size; simpa using this
          have hsz' : w.heap.size < wr.heap.size := by omega
          have q0 : wr.cell? ⟨w.heap.size, 0, none⟩ = some (.int .i64 stops) := (hbel.cell (p := ⟨_, 0, none⟩) (by simp)).trans (by simp)
          have q1 : wr.cell? ⟨w.heap.size, 1, none⟩ = some (.slice (some ⟨b, off, none⟩) tracks.length tc) := (hbel.cell (p := ⟨_, 1, none⟩) (by simp)).trans (by simp)
          have q2 : wr.cell? ⟨w.heap.size, 2, none⟩ = some (.slice sA shops.length sc) := (hbel.cell (p := ⟨_, 2, none⟩) (by simp)).trans (by simp)
          have hW : Below w.heap.size w wr := ((Below.refl w.heap.size w).alloc (Nat.le_refl _) _).trans (hbel.mono (by omega))
          by_cases hlt : k < tracks.length
          · have hbr : b < wr.heap.size := by omega
            obtain ⟨c0, c1, c2, c3, c4, c5, c6, c7, c8⟩ := trk_cells (w := wr) (b := b) (o := off + k * 9) (t := tracks[k]) (fun j v hv => (hbel.cell (p := ⟨b, off + k * 9 + j, none⟩) (by show b < _; omega)).trans ((World.cell?_alloc_lt w _ _ (by show b < _; omega)).trans (hcell k hlt j v hv)))
            clear hcell
            generalize htk : tracks[k] = t at c0 c1 c2 c3 c4 c5 c6 c7 c8
            have Htk : Hid (tracks[k] = t) := htk
            clear htk
            cases g0 : Pl.out t.a 0 (stops - 1)
            · skip
              cases g1 : Pl.out t.b 0 (stops - 1)
              · skip
                cases g2 : (t.a == t.b)
                · have g2' : ¬ t.a = t.b := by simpa using g2
                  cases g3 : Pl.out t.km 1 99
                  · skip
                    cases g4 : Pl.out t.gauge 1 3
                    · skip
                      cases g5 : Pl.out t.room 1 9
                      · skip
                        cases g6 : Pl.out t.brake 0 3
                        · skip
                          cases g7 : Pl.out t.heat 0 3
                          · skip
                            cases g8 : Pl.out t.load 1 20
                            · skip
                              have hE : Pl.trackErr stops tracks[k] = 0 := by rw [Htk.out]; simp [Pl.trackErr, g0, g1, g2', g3, g4, g5, g6, g7, g8]
                              have hN : Hid (Pl.tracksErr stops tracks = Pl.tracksErr stops (tracks.drop (k + 1))) := by show _ = _; rw [hRk.out, tracksErr_zero _ _ _ hlt hE]
                              clear hE hRk
                              go_wp2_with (go_at_call 22; refine (out_any _ _ _ _).mono ?_; rintro e w' ⟨rfl, rfl⟩)
                              go_roundw
                              case rel => exact ⟨k + 1, by omega, by go_num, hbel.alloc hsz _, hN⟩
                              case measure => simp [intOf]; omega
                            · skip
                              have hE : Pl.trackErr stops tracks[k] = 1 := by rw [Htk.out]; simp [Pl.trackErr, g0, g1, g2', g3, g4, g5, g6, g7, g8]
                              have hN : Hid (Pl.check ⟨stops, tracks, shops⟩ = 1) := by
                                have hE2 : Pl.tracksErr stops tracks = 1 := by rw [hRk.out, tracksErr_not _ _ _ hlt (by rw [hE]; decide), hE]
                                show _ = _; rw [check_of_tracks hst (by omega) (by rw [hE2]; decide), hE2]
                              clear hE hRk
                              go_wp2_with (go_at_call 22; refine (out_any _ _ _ _).mono ?_; rintro e w' ⟨rfl, rfl⟩)
                              go_ret
                              exact ⟨by rw [hN.out]; rfl, hW.alloc (by omega) _⟩
                          · skip
                            have hE : Pl.trackErr stops tracks[k] = 1 := by rw [Htk.out]; simp [Pl.trackErr, g0, g1, g2', g3, g4, g5, g6, g7]
                            have hN : Hid (Pl.check ⟨stops, tracks, shops⟩ = 1) := by
                              have hE2 : Pl.tracksErr stops tracks = 1 := by rw [hRk.out, tracksErr_not _ _ _ hlt (by rw [hE]; decide), hE]
                              show _ = _; rw [check_of_tracks hst (by omega) (by rw [hE2]; decide), hE2]
                            clear hE hRk
                            go_wp2_with (go_at_call 22; refine (out_any _ _ _ _).mono ?_; rintro e w' ⟨rfl, rfl⟩)
                            go_ret
                            exact ⟨by rw [hN.out]; rfl, hW.alloc (by omega) _⟩
                        · skip
                          have hE : Pl.trackErr stops tracks[k] = 1 := by rw [Htk.out]; simp [Pl.trackErr, g0, g1, g2', g3, g4, g5, g6]
                          have hN : Hid (Pl.check ⟨stops, tracks, shops⟩ = 1) := by
                            have hE2 : Pl.tracksErr stops tracks = 1 := by rw [hRk.out, tracksErr_not _ _ _ hlt (by rw [hE]; decide), hE]
                            show _ = _; rw [check_of_tracks hst (by omega) (by rw [hE2]; decide), hE2]
                          clear hE hRk
                          go_wp2_with (go_at_call 22; refine (out_any _ _ _ _).mono ?_; rintro e w' ⟨rfl, rfl⟩)
                          go_ret
                          exact ⟨by rw [hN.out]; rfl, hW.alloc (by omega) _⟩
                      · skip
                        have hE : Pl.trackErr stops tracks[k] = 1 := by rw [Htk.out]; simp [Pl.trackErr, g0, g1, g2', g3, g4, g5]
                        have hN : Hid (Pl.check ⟨stops, tracks, shops⟩ = 1) := by
                          have hE2 : Pl.tracksErr stops tracks = 1 := by rw [hRk.out, tracksErr_not _ _ _ hlt (by rw [hE]; decide), hE]
                          show _ = _; rw [check_of_tracks hst (by omega) (by rw [hE2]; decide), hE2]
                        clear hE hRk
                        go_wp2_with (go_at_call 22; refine (out_any _ _ _ _).mono ?_; rintro e w' ⟨rfl, rfl⟩)
                        go_ret
                        exact ⟨by rw [hN.out]; rfl, hW.alloc (by omega) _⟩
                    · skip
                      have hE : Pl.trackErr stops tracks[k] = 1 := by rw [Htk.out]; simp [Pl.trackErr, g0, g1, g2', g3, g4]
                      have hN : Hid (Pl.check ⟨stops, tracks, shops⟩ = 1) := by
                        have hE2 : Pl.tracksErr stops tracks = 1 := by rw [hRk.out, tracksErr_not _ _ _ hlt (by rw [hE]; decide), hE]
                        show _ = _; rw [check_of_tracks hst (by omega) (by rw [hE2]; decide), hE2]
                      clear hE hRk
                      go_wp2_with (go_at_call 22; refine (out_any _ _ _ _).mono ?_; rintro e w' ⟨rfl, rfl⟩)
                      go_ret
                      exact ⟨by rw [hN.out]; rfl, hW.alloc (by omega) _⟩
                  · skip
                    have hE : Pl.trackErr stops tracks[k] = 1 := by rw [Htk.out]; simp [Pl.trackErr, g0, g1, g2', g3]
                    have hN : Hid (Pl.check ⟨stops, tracks, shops⟩ = 1) := by
                      have hE2 : Pl.tracksErr stops tracks = 1 := by rw [hRk.out, tracksErr_not _ _ _ hlt (by rw [hE]; decide), hE]
                      show _ = _; rw [check_of_tracks hst (by omega) (by rw [hE2]; decide), hE2]
                    clear hE hRk
                    go_wp2_with (go_at_call 22; refine (out_any _ _ _ _).mono ?_; rintro e w' ⟨rfl, rfl⟩)
                    go_ret
                    exact ⟨by rw [hN.out]; rfl, hW.alloc (by omega) _⟩
                · have g2' : t.a = t.b := by simpa using g2
                  have g2h := Lib.hid g2'; clear g2'
                  have hE : Pl.trackErr stops tracks[k] = 4 := by rw [Htk.out]; simp [Pl.trackErr, g1, g2h.out]
                  have hN : Hid (Pl.check ⟨stops, tracks, shops⟩ = 4) := by
                    have hE2 : Pl.tracksErr stops tracks = 4 := by rw [hRk.out, tracksErr_not _ _ _ hlt (by rw [hE]; decide), hE]
                    show _ = _; rw [check_of_tracks hst (by omega) (by rw [hE2]; decide), hE2]
                  clear hE hRk
                  go_wp2_with (go_at_call 22; refine (out_any _ _ _ _).mono ?_; rintro e w' ⟨rfl, rfl⟩)
                  go_ret
                  exact ⟨by rw [hN.out]; rfl, hW.alloc (by omega) _⟩
              · skip
                have hE : Pl.trackErr stops tracks[k] = 3 := by rw [Htk.out]; simp [Pl.trackErr, g0, g1]
                have hN : Hid (Pl.check ⟨stops, tracks, shops⟩ = 3) := by
                  have hE2 : Pl.tracksErr stops tracks = 3 := by rw [hRk.out, tracksErr_not _ _ _ hlt (by rw [hE]; decide), hE]
                  show _ = _; rw [check_of_tracks hst (by omega) (by rw [hE2]; decide), hE2]
                clear hE hRk
                go_wp2_with (go_at_call 22; refine (out_any _ _ _ _).mono ?_; rintro e w' ⟨rfl, rfl⟩)
                go_ret
                exact ⟨by rw [hN.out]; rfl, hW.alloc (by omega) _⟩
            · skip
              have hE : Pl.trackErr stops tracks[k] = 3 := by rw [Htk.out]; simp [Pl.trackErr, g0]
              have hN : Hid (Pl.check ⟨stops, tracks, shops⟩ = 3) := by
                have hE2 : Pl.tracksErr stops tracks = 3 := by rw [hRk.out, tracksErr_not _ _ _ hlt (by rw [hE]; decide), hE]
                show _ = _; rw [check_of_tracks hst (by omega) (by rw [hE2]; decide), hE2]
              clear hE hRk
              go_wp2_with (go_at_call 22; refine (out_any _ _ _ _).mono ?_; rintro e w' ⟨rfl, rfl⟩)
              go_ret
              exact ⟨by rw [hN.out]; rfl, hW.alloc (by omega) _⟩
          · have hE2 : Pl.tracksErr stops tracks = 0 := by rw [hRk.out, List.drop_eq_nil_of_le (by omega)]; rfl
            have hN : Hid (Pl.check ⟨stops, tracks, shops⟩ = Pl.rising shops 0 (stops - 1) 3) := by show _ = _; rw [check_of_shops hst (by omega) hE2]
            clear hE2 hRk hcell
            have hs' := (hs.alloc (Nat.le_refl _) (.cells #[.int .i64 stops, .slice (some ⟨b, off, none⟩) tracks.length tc, .slice sA shops.length sc] 25)).keep (w' := wr) (fun p hp => hbel.cell (by omega))
            go_wp2_with (go_at_call 23; refine (rising_any _ _ _ _ _ _ w.heap.size _ hs' hl).mono ?_; rintro e w' ⟨rfl, rfl⟩)
            go_ret
            exact ⟨by rw [hN.out]; rfl, hW⟩
  · have hN : Hid (Pl.check ⟨stops, tracks, shops⟩ = 1) := by show _ = _; simp only [Pl.check, hst]; rw [if_pos trivial]
    go_enter Tryz.func7, Tryz.ntmps7
    go_wp2_with (go_at_call 22; refine (out_any _ _ _ _).mono ?_; rintro e w' ⟨rfl, rfl⟩)
    go_ret
    exact ⟨by rw [hN.out]; rfl, (Below.refl _ _).alloc (Nat.le_refl _) _⟩
end Go.Proofs.YtpbjpochjagicaaGreatDoorRR

