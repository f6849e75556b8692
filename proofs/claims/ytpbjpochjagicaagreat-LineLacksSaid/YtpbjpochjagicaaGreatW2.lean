/- Walks: nets and cars are checked. Walks: the bag that deals numbers; small functions on lists. -/
import Derived.Test.YtpbjpochjagicaaGreatWd
import Derived.Lib.Hide
namespace Go.Proofs.YtpbjpochjagicaaGreat
open Go.RowKit

theorem trk_cells {w : World} {b o : Nat} {t : Pl.Trk} (h : ∀ j v, (trkCells t)[j]? = some v → w.cell? ⟨b, o + j, none⟩ = some v) :
    w.cell? ⟨b, o, none⟩ = some (.int .i64 t.a) ∧ w.cell? ⟨b, o + 1, none⟩ = some (.int .i64 t.b) ∧ w.cell? ⟨b, o + 2, none⟩ = some (.int .i64 t.km) ∧
    w.cell? ⟨b, o + 3, none⟩ = some (.int .i64 t.gauge) ∧ w.cell? ⟨b, o + 4, none⟩ = some (.int .i64 t.room) ∧ w.cell? ⟨b, o + 5, none⟩ = some (.int .i64 t.brake) ∧
    w.cell? ⟨b, o + 6, none⟩ = some (.int .i64 t.heat) ∧ w.cell? ⟨b, o + 7, none⟩ = some (.int .i64 t.load) ∧ w.cell? ⟨b, o + 8, none⟩ = some (.bool t.ferry) :=
  ⟨h 0 _ rfl, h 1 _ rfl, h 2 _ rfl, h 3 _ rfl, h 4 _ rfl, h 5 _ rfl, h 6 _ rfl, h 7 _ rfl, h 8 _ rfl⟩

theorem tracksErr_zero (s : Int) (ts : List Pl.Trk) (k : Nat) (hk : k < ts.length) (h : Pl.trackErr s ts[k] = 0) : Pl.tracksErr s (ts.drop k) = Pl.tracksErr s (ts.drop (k + 1)) := by
  rw [List.drop_eq_getElem_cons hk, Pl.tracksErr, if_pos h]
theorem tracksErr_not (s : Int) (ts : List Pl.Trk) (k : Nat) (hk : k < ts.length) (h : Pl.trackErr s ts[k] ≠ 0) : Pl.tracksErr s (ts.drop k) = Pl.trackErr s ts[k] := by
  rw [List.drop_eq_getElem_cons hk, Pl.tracksErr, if_neg h]
theorem check_of_tracks {s : Int} {ts : List Pl.Trk} {sh : List Int} (h1 : Pl.out s 1 6 = false) (h2 : ts.length ≤ 8) (h : Pl.tracksErr s ts ≠ 0) : Pl.check ⟨s, ts, sh⟩ = Pl.tracksErr s ts := by
  simp only [Pl.check, h1]; rw [if_neg (by simp), if_neg (by omega), if_neg h]
theorem check_of_shops {s : Int} {ts : List Pl.Trk} {sh : List Int} (h1 : Pl.out s 1 6 = false) (h2 : ts.length ≤ 8) (h : Pl.tracksErr s ts = 0) : Pl.check ⟨s, ts, sh⟩ = Pl.rising sh 0 (s - 1) 3 := by
  simp only [Pl.check, h1]; rw [if_neg (by simp), if_neg (by omega), if_pos h]

set_option maxRecDepth 100000 in
set_option maxHeartbeats 4000000 in
theorem check_any (n : Pl.Nt) (tA sA : Option Addr) (tc sc : Nat) (w : World) (ht : Trks w w.heap.size tA n.tracks) (hs : Ints w w.heap.size sA n.shops) (hl : n.shops.length ≤ 9223372036854775807) (hl2 : n.tracks.length ≤ 9223372036854775807) :
    Calls Tryz.prog 94 #[.agg #[.int .i64 n.stops, .slice tA n.tracks.length tc, .slice sA n.shops.length sc]] w fun e w' => e = .returned (.int .i64 (Pl.check n)) ∧ Below w.heap.size w w' := by
  obtain ⟨stops, tracks, shops⟩ := n
  simp only at ht hs hl hl2 ⊢
  cases hst : Pl.out stops 1 6
  · by_cases h8 : 8 < tracks.length
    · have hN : Hid (Pl.check ⟨stops, tracks, shops⟩ = 6) := by show _ = _; simp only [Pl.check, hst]; rw [if_neg (by simp), if_pos h8]
      go_enter Tryz.func94, Tryz.ntmps94
      go_wp2_with (go_at_call 75; refine (out_any _ _ _ _).mono ?_; rintro e w' ⟨rfl, rfl⟩)
      go_ret
      exact ⟨by rw [hN.out]; rfl, (Below.refl _ _).alloc (Nat.le_refl _) _⟩
    · have hlo : 1 ≤ stops ∧ stops ≤ 6 := by simp [Pl.out] at hst; exact hst
      obtain ⟨hlo, hhi⟩ := hlo
      have htr : tracks = [] ∨ ∃ b off, tA = some ⟨b, off, none⟩ ∧ b < w.heap.size ∧ ∀ k (hk : k < tracks.length) j v, (trkCells tracks[k])[j]? = some v → w.cell? ⟨b, off + k * 9 + j, none⟩ = some v := by
        rcases ht.cases with h | ⟨b, off, h, hb, hc⟩
        · exact .inl h
        · exact .inr ⟨b, off, h, hb, fun k hk j v hv => hc k _ (List.getElem?_eq_getElem hk) j v hv⟩
      clear ht
      obtain rfl | ⟨b, off, rfl, hbw, hcell⟩ := htr
      · have hN : Hid (Pl.check ⟨stops, [], shops⟩ = Pl.rising shops 0 (stops - 1) 3) := by show _ = _; rw [check_of_shops hst (by simp) rfl]
        go_enter Tryz.func94, Tryz.ntmps94
        go_wp2_with (go_at_call 75; refine (out_any _ _ _ _).mono ?_; rintro e w' ⟨rfl, rfl⟩)
        go_loop [17] (fun i => i = .int .i64 0) (fun _ => 0)
        case atStart => rfl
        case round =>
          obtain rfl := hrel
          go_wp2_with (go_at_call 112; refine (rising_any _ _ _ _ _ _ w.heap.size _ (hs.alloc (Nat.le_refl _) _) hl).mono ?_; rintro e w' ⟨rfl, rfl⟩)
          go_ret
          exact ⟨by rw [hN.out]; rfl, (Below.refl _ _).alloc (Nat.le_refl _) _⟩
      · have hR : Hid (Pl.tracksErr stops tracks = Pl.tracksErr stops (tracks.drop 0)) := rfl
        go_enter Tryz.func94, Tryz.ntmps94
        go_wp2_with (go_at_call 75; refine (out_any _ _ _ _).mono ?_; rintro e w' ⟨rfl, rfl⟩)
        go_loopw [17] (fun i wr => ∃ k : Nat, k ≤ tracks.length ∧ i = .int .i64 k ∧ Below (w.heap.size + 1) (w.alloc (.cells #[.int .i64 stops, .slice (some ⟨b, off, none⟩) tracks.length tc, .slice sA shops.length sc] 25)) wr ∧ Hid (Pl.tracksErr stops tracks = Pl.tracksErr stops (tracks.drop k))) (fun i _ => tracks.length - (intOf i).toNat)
        case atStart => exact ⟨0, Nat.zero_le _, rfl, Below.refl _ _, hR⟩
        case round =>
          obtain ⟨k, hk, rfl, hbel, hRk⟩ := hrel
          clear hR
          have hsz : w.heap.size + 1 ≤ wr.heap.size := by have := hbel.size; simpa using this
          have hsz' : w.heap.size < wr.heap.size := by omega
          have q0 : wr.cell? ⟨w.heap.size, 0, none⟩ = some (.int .i64 stops) := (hbel.cell (p := ⟨_, 0, none⟩) (by simp)).trans (by simp)
          have q1 : wr.cell? ⟨w.heap.size, 1, none⟩ = some (.slice (some ⟨b, off, none⟩) tracks.length tc) := (hbel.cell (p := ⟨_, 1, none⟩) (by simp)).trans (by simp)
          have q2 : wr.cell? ⟨w.heap.size, 2, none⟩ = some (.slice sA shops.length sc) := (hbel.cell (p := ⟨_, 2, none⟩) (by simp)).trans (by simp)
          have hW : Below w.heap.size w wr := ((Below.refl w.heap.size w).alloc (Nat.le_refl _) _).trans (hbel.mono (by omega))
          by_cases hlt : k < tracks.length
          · have hbr : b < wr.heap.size := by omega
            obtain ⟨c0, c1, c2, c3, c4, c5, c6, c7, c8⟩ := trk_cells (w := wr) (b := b) (o := off + k * 9) (t := tracks[k]) (fun j v hv => (hbel.cell (p := ⟨b, off + k * 9 + j, none⟩) (by show b < _; omega)).trans ((World.cell?_alloc_lt w _ _ (by show b < _; omega)).trans (hcell k hlt j v hv)))
            clear hcell
            generalize htk : tracks[k] = t at c0 c1 c2 c3 c4 c5 c6 c7 c8
            have Htk : Hid (tracks[k] = t) := htk
            clear htk
            cases g0 : Pl.out t.a 0 (stops - 1)
            · skip
              cases g1 : Pl.out t.b 0 (stops - 1)
              · skip
                cases g2 : (t.a == t.b)
                · have g2' : ¬ t.a = t.b := by simpa using g2
                  cases g3 : Pl.out t.km 1 99
                  · skip
                    cases g4 : Pl.out t.gauge 1 3
                    · skip
                      cases g5 : Pl.out t.room 1 9
                      · skip
                        cases g6 : Pl.out t.brake 0 3
                        · skip
                          cases g7 : Pl.out t.heat 0 3
                          · skip
                            cases g8 : Pl.out t.load 1 20
                            · skip
                              have hE : Pl.trackErr stops tracks[k] = 0 := by rw [Htk.out]; simp [Pl.trackErr, g0, g1, g2', g3, g4, g5, g6, g7, g8]
                              have hN : Hid (Pl.tracksErr stops tracks = Pl.tracksErr stops (tracks.drop (k + 1))) := by show _ = _; rw [hRk.out, tracksErr_zero _ _ _ hlt hE]
                              clear hE hRk
                              go_wp2_with (go_at_call 75; refine (out_any _ _ _ _).mono ?_; rintro e w' ⟨rfl, rfl⟩)
                              go_roundw
                              case rel => exact ⟨k + 1, by omega, by go_num, hbel.alloc hsz _, hN⟩
                              case measure => simp [intOf]; omega
                            · skip
                              have hE : Pl.trackErr stops tracks[k] = 1 := by rw [Htk.out]; simp [Pl.trackErr, g0, g1, g2', g3, g4, g5, g6, g7, g8]
                              have hN : Hid (Pl.check ⟨stops, tracks, shops⟩ = 1) := by
                                have hE2 : Pl.tracksErr stops tracks = 1 := by rw [hRk.out, tracksErr_not _ _ _ hlt (by rw [hE]; decide), hE]
                                show _ = _; rw [check_of_tracks hst (by omega) (by rw [hE2]; decide), hE2]
                              clear hE hRk
                              go_wp2_with (go_at_call 75; refine (out_any _ _ _ _).mono ?_; rintro e w' ⟨rfl, rfl⟩)
                              go_ret
                              exact ⟨by rw [hN.out]; rfl, hW.alloc (by omega) _⟩
                          · skip
                            have hE : Pl.trackErr stops tracks[k] = 1 := by rw [Htk.out]; simp [Pl.trackErr, g0, g1, g2', g3, g4, g5, g6, g7]
                            have hN : Hid (Pl.check ⟨stops, tracks, shops⟩ = 1) := by
                              have hE2 : Pl.tracksErr stops tracks = 1 := by rw [hRk.out, tracksErr_not _ _ _ hlt (by rw [hE]; decide), hE]
                              show _ = _; rw [check_of_tracks hst (by omega) (by rw [hE2]; decide), hE2]
                            clear hE hRk
                            go_wp2_with (go_at_call 75; refine (out_any _ _ _ _).mono ?_; rintro e w' ⟨rfl, rfl⟩)
                            go_ret
                            exact ⟨by rw [hN.out]; rfl, hW.alloc (by omega) _⟩
                        · skip
                          have hE : Pl.trackErr stops tracks[k] = 1 := by rw [Htk.out]; simp [Pl.trackErr, g0, g1, g2', g3, g4, g5, g6]
                          have hN : Hid (Pl.check ⟨stops, tracks, shops⟩ = 1) := by
                            have hE2 : Pl.tracksErr stops tracks = 1 := by rw [hRk.out, tracksErr_not _ _ _ hlt (by rw [hE]; decide), hE]
                            show _ = _; rw [check_of_tracks hst (by omega) (by rw [hE2]; decide), hE2]
                          clear hE hRk
                          go_wp2_with (go_at_call 75; refine (out_any _ _ _ _).mono ?_; rintro e w' ⟨rfl, rfl⟩)
                          go_ret
                          exact ⟨by rw [hN.out]; rfl, hW.alloc (by omega) _⟩
                      · skip
                        have hE : Pl.trackErr stops tracks[k] = 1 := by rw [Htk.out]; simp [Pl.trackErr, g0, g1, g2', g3, g4, g5]
                        have hN : Hid (Pl.check ⟨stops, tracks, shops⟩ = 1) := by
                          have hE2 : Pl.tracksErr stops tracks = 1 := by rw [hRk.out, tracksErr_not _ _ _ hlt (by rw [hE]; decide), hE]
                          show _ = _; rw [check_of_tracks hst (by omega) (by rw [hE2]; decide), hE2]
                        clear hE hRk
                        go_wp2_with (go_at_call 75; refine (out_any _ _ _ _).mono ?_; rintro e w' ⟨rfl, rfl⟩)
                        go_ret
                        exact ⟨by rw [hN.out]; rfl, hW.alloc (by omega) _⟩
                    · skip
                      have hE : Pl.trackErr stops tracks[k] = 1 := by rw [Htk.out]; simp [Pl.trackErr, g0, g1, g2', g3, g4]
                      have hN : Hid (Pl.check ⟨stops, tracks, shops⟩ = 1) := by
                        have hE2 : Pl.tracksErr stops tracks = 1 := by rw [hRk.out, tracksErr_not _ _ _ hlt (by rw [hE]; decide), hE]
                        show _ = _; rw [check_of_tracks hst (by omega) (by rw [hE2]; decide), hE2]
                      clear hE hRk
                      go_wp2_with (go_at_call 75; refine (out_any _ _ _ _).mono ?_; rintro e w' ⟨rfl, rfl⟩)
                      go_ret
                      exact ⟨by rw [hN.out]; rfl, hW.alloc (by omega) _⟩
                  · skip
                    have hE : Pl.trackErr stops tracks[k] = 1 := by rw [Htk.out]; simp [Pl.trackErr, g0, g1, g2', g3]
                    have hN : Hid (Pl.check ⟨stops, tracks, shops⟩ = 1) := by
                      have hE2 : Pl.tracksErr stops tracks = 1 := by rw [hRk.out, tracksErr_not _ _ _ hlt (by rw [hE]; decide), hE]
                      show _ = _; rw [check_of_tracks hst (by omega) (by rw [hE2]; decide), hE2]
                    clear hE hRk
                    go_wp2_with (go_at_call 75; refine (out_any _ _ _ _).mono ?_; rintro e w' ⟨rfl, rfl⟩)
                    go_ret
                    exact ⟨by rw [hN.out]; rfl, hW.alloc (by omega) _⟩
                · have g2' : t.a = t.b := by simpa using g2
                  have g2h := Lib.hid g2'; clear g2'
                  have hE : Pl.trackErr stops tracks[k] = 4 := by rw [Htk.out]; simp [Pl.trackErr, g1, g2h.out]
                  have hN : Hid (Pl.check ⟨stops, tracks, shops⟩ = 4) := by
                    have hE2 : Pl.tracksErr stops tracks = 4 := by rw [hRk.out, tracksErr_not _ _ _ hlt (by rw [hE]; decide), hE]
                    show _ = _; rw [check_of_tracks hst (by omega) (by rw [hE2]; decide), hE2]
                  clear hE hRk
                  go_wp2_with (go_at_call 75; refine (out_any _ _ _ _).mono ?_; rintro e w' ⟨rfl, rfl⟩)
                  go_ret
                  exact ⟨by rw [hN.out]; rfl, hW.alloc (by omega) _⟩
              · skip
                have hE : Pl.trackErr stops tracks[k] = 3 := by rw [Htk.out]; simp [Pl.trackErr, g0, g1]
                have hN : Hid (Pl.check ⟨stops, tracks, shops⟩ = 3) := by
                  have hE2 : Pl.tracksErr stops tracks = 3 := by rw [hRk.out, tracksErr_not _ _ _ hlt (by rw [hE]; decide), hE]
                  show _ = _; rw [check_of_tracks hst (by omega) (by rw [hE2]; decide), hE2]
                clear hE hRk
                go_wp2_with (go_at_call 75; refine (out_any _ _ _ _).mono ?_; rintro e w' ⟨rfl, rfl⟩)
                go_ret
                exact ⟨by rw [hN.out]; rfl, hW.alloc (by omega) _⟩
            · skip
              have hE : Pl.trackErr stops tracks[k] = 3 := by rw [Htk.out]; simp [Pl.trackErr, g0]
              have hN : Hid (Pl.check ⟨stops, tracks, shops⟩ = 3) := by
                have hE2 : Pl.tracksErr stops tracks = 3 := by rw [hRk.out, tracksErr_not _ _ _ hlt (by rw [hE]; decide), hE]
                show _ = _; rw [check_of_tracks hst (by omega) (by rw [hE2]; decide), hE2]
              clear hE hRk
              go_wp2_with (go_at_call 75; refine (out_any _ _ _ _).mono ?_; rintro e w' ⟨rfl, rfl⟩)
              go_ret
              exact ⟨by rw [hN.out]; rfl, hW.alloc (by omega) _⟩
          · have hE2 : Pl.tracksErr stops tracks = 0 := by rw [hRk.out, List.drop_eq_nil_of_le (by omega)]; rfl
            have hN : Hid (Pl.check ⟨stops, tracks, shops⟩ = Pl.rising shops 0 (stops - 1) 3) := by show _ = _; rw [check_of_shops hst (by omega) hE2]
            clear hE2 hRk hcell
            have hs' := (hs.alloc (Nat.le_refl _) (.cells #[.int .i64 stops, .slice (some ⟨b, off, none⟩) tracks.length tc, .slice sA shops.length sc] 25)).keep (w' := wr) (fun p hp => hbel.cell (by omega))
            go_wp2_with (go_at_call 112; refine (rising_any _ _ _ _ _ _ w.heap.size _ hs' hl).mono ?_; rintro e w' ⟨rfl, rfl⟩)
            go_ret
            exact ⟨by rw [hN.out]; rfl, hW⟩
  · have hN : Hid (Pl.check ⟨stops, tracks, shops⟩ = 1) := by show _ = _; simp only [Pl.check, hst]; rw [if_pos trivial]
    go_enter Tryz.func94, Tryz.ntmps94
    go_wp2_with (go_at_call 75; refine (out_any _ _ _ _).mono ?_; rintro e w' ⟨rfl, rfl⟩)
    go_ret
    exact ⟨by rw [hN.out]; rfl, (Below.refl _ _).alloc (Nat.le_refl _) _⟩
end Go.Proofs.YtpbjpochjagicaaGreat

namespace Go.Proofs.YtpbjpochjagicaaGreat
open Go.RowKit

/-- A bag lies in block g. -/
def BagAt (w : World) (g : Nat) : Prop := ∃ s : Int, w.heap[g]? = some (.cells #[.int .u64 s] 60 (0, 0))
/-- The bag has dealt: its cell alone has turned. -/
def Bagged (g : Nat) (w w' : World) : Prop := ∃ (s : Int) (n : Nat), w' = (w.setCell ⟨g, 0, none⟩ (.int .u64 s)).drewN n
section
variable {g : Nat} {w w' : World}
theorem BagAt.lt (h : BagAt w g) : g < w.heap.size := by
  obtain ⟨s, h⟩ := h
  rcases Nat.lt_or_ge g w.heap.size with hlt | hge
  · exact hlt
  · rw [Array.getElem?_eq_none hge] at h; cases h
theorem BagAt.cell (h : BagAt w g) : ∃ s : Int, w.cell? ⟨g, 0, none⟩ = some (.int .u64 s) ∧ w.frozen? ⟨g, 0, none⟩ = false := by
  obtain ⟨s, h⟩ := h
  exact ⟨s, cell_of_row w g 0 _ 60 (0, 0) h, by simp [World.frozen?, h]⟩
theorem BagAt.of_block (h : BagAt w g) (hb : w'.heap[g]? = w.heap[g]?) : BagAt w' g := by
  obtain ⟨s, h⟩ := h
  exact ⟨s, hb.trans h⟩
theorem BagAt.alloc (h : BagAt w g) (o : Obj) : BagAt (w.alloc o) g := h.of_block (Below.heap_alloc w o g h.lt)
theorem BagAt.grown {row : Option Nat} (h : BagAt w g) (hg : w.grownBy w' row) (hne : some g ≠ row) : BagAt w' g := h.of_block (hg.block g h.lt hne)
theorem BagAt.below {B : Nat} (h : BagAt w g) (hb : Below B w w') (hg : g < B) : BagAt w' g := h.of_block (hb.block g hg)
theorem BagAt.setCell (h : BagAt w g) {p : Addr} (hp : g ≠ p.block) (u : Value) : BagAt (w.setCell p u) g := h.of_block (Below.heap_setCell w p u g hp)
theorem BagAt.drewN (h : BagAt w g) (n : Nat) : BagAt (w.drewN n) g := h
theorem BagAt.drew (h : BagAt w g) : BagAt w.drew g := h
theorem Bagged.bag (h : Bagged g w w') (hb : BagAt w g) : BagAt w' g := by
  obtain ⟨s, n, rfl⟩ := h
  obtain ⟨s0, hb⟩ := hb
  refine ⟨s, ?_⟩
  show (w.setCell ⟨g, 0, none⟩ (.int .u64 s)).heap[g]? = _
  simp [World.setCell, Array.getElem?_modify, hb]
theorem Bagged.size (h : Bagged g w w') : w'.heap.size = w.heap.size := by obtain ⟨s, n, rfl⟩ := h; simp [World.setCell, World.drewN]
theorem Bagged.block (h : Bagged g w w') {k : Nat} (hk : k ≠ g) : w'.heap[k]? = w.heap[k]? := by
  obtain ⟨s, n, rfl⟩ := h
  exact Below.heap_setCell w ⟨g, 0, none⟩ (.int .u64 s) k hk
theorem Bagged.cell (h : Bagged g w w') {p : Addr} (hp : p.block ≠ g) : w'.cell? p = w.cell? p := World.cell?_of_block (h.block hp)
theorem Bagged.frozen (h : Bagged g w w') {p : Addr} (hp : p.block ≠ g) : w'.frozen? p = w.frozen? p := World.frozen?_of_block (h.block hp)
theorem Bagged.below {B : Nat} (h : Bagged g w w') (hB : B ≤ g) : Below B w w' := by
  obtain ⟨s, n, rfl⟩ := h
  exact (Below.refl B w).setCell (p := ⟨g, 0, none⟩) hB _ |>.trans ⟨rfl, rfl, rfl, Nat.le_refl _, fun _ _ => rfl⟩
theorem Bagged.grown (h : Bagged g w w') : w.grownBy w' (some g) := by
  have hs := h.size
  have hb := fun k (hk : k ≠ g) => h.block hk
  obtain ⟨s, n, rfl⟩ := h
  exact ⟨rfl, rfl, rfl, by omega, fun k _ hk => hb k (fun e => hk (by rw [e]))⟩
theorem Bagged.trans {w2 : World} (h : Bagged g w w') (h2 : Bagged g w' w2) : Bagged g w w2 := by
  obtain ⟨s, n, rfl⟩ := h
  obtain ⟨s2, n2, rfl⟩ := h2
  refine ⟨s2, n + n2, ?_⟩
  have e : ((w.setCell ⟨g, 0, none⟩ (.int .u64 s)).drewN n).setCell ⟨g, 0, none⟩ (.int .u64 s2) = (w.setCell ⟨g, 0, none⟩ (.int .u64 s2)).drewN n := by
    simp only [World.setCell, World.drewN]
    congr 1
    apply Array.ext_getElem?
    intro i
    simp only [Array.getElem?_modify]
    by_cases hi : g = i
    · subst hi
      simp only [if_true]
      cases hw : w.heap[g]? with
      | none => simp
      | some o => cases o <;> simp
    · simp [hi]
  rw [e, World.drewN_drewN]
end

/-- What Up deals. -/
def UpPost (g : Nat) (m : Int) (w : World) (e : Ending) (w' : World) : Prop := ∃ x : Int, e = .returned (.int .i64 x) ∧ 0 ≤ x ∧ (x ≤ m ∨ x ≤ 0) ∧ Bagged g w w'

theorem Bagged.refl {g : Nat} {w : World} (h : BagAt w g) : Bagged g w w := by
  obtain ⟨s, h⟩ := h
  refine ⟨s, 0, ?_⟩
  have e : (w.setCell ⟨g, 0, none⟩ (.int .u64 s)).heap = w.heap := by
    apply Array.ext_getElem?
    intro i
    simp only [World.setCell, Array.getElem?_modify]
    by_cases hi : g = i
    · subst hi; simp [h]
    · simp [hi]
  have : (w.setCell ⟨g, 0, none⟩ (.int .u64 s)) = w := by
    show { w with heap := (w.setCell ⟨g, 0, none⟩ (.int .u64 s)).heap } = w
    rw [e]
  rw [this]; rfl

set_option maxHeartbeats 400000 in
theorem up_any (g : Nat) (m : Int) (w : World) (hb : BagAt w g) (hm : m ≤ 1000000000) : Calls Tryz.prog 34 #[.pointer (some ⟨g, 0, none⟩), .int .i64 m] w (UpPost g m w) := by
  by_cases h1 : m < 1
  · go_enter Tryz.func34, Tryz.ntmps34
    go_wp2
    go_ret
    exact ⟨0, rfl, by omega, .inr (by omega), Bagged.refl hb⟩
  · obtain ⟨s, hc, hf⟩ := hb.cell
    go_enter Tryz.func34, Tryz.ntmps34
    go_wp2_with (go_at_call 74; refine (next_any _ s _ hc hf).mono ?_; rintro e w' ⟨x, s', n, rfl, hx, rfl⟩)
    go_ret
    have h2 : 0 ≤ x / 8192 % (m + 1) := Int.emod_nonneg _ (by omega)
    have h3 : x / 8192 % (m + 1) < m + 1 := Int.emod_lt_of_pos _ (by omega)
    have h4 : wrap64 (x / 8192 % (m + 1)) = x / 8192 % (m + 1) := IntWalk.wrap64_in _ ⟨by omega, by omega⟩
    exact ⟨wrap64 (x / 8192 % (m + 1)), rfl, by omega, .inl (by omega), s', n, rfl⟩

/-- What From deals. -/
def FromPost (g : Nat) (a m : Int) (w : World) (e : Ending) (w' : World) : Prop := ∃ x : Int, e = .returned (.int .i64 x) ∧ a ≤ x ∧ (x ≤ m ∨ x ≤ a) ∧ Bagged g w w'
theorem from_any (g : Nat) (a m : Int) (w : World) (hb : BagAt w g) (h0 : -1000000 ≤ a) (h1 : a ≤ 1000000) (h2 : m ≤ 1000000) (h3 : -1000000 ≤ m) :
    Calls Tryz.prog 71 #[.pointer (some ⟨g, 0, none⟩), .int .i64 a, .int .i64 m] w (FromPost g a m w) := by
  go_enter Tryz.func71, Tryz.ntmps71
  go_wp2_with (go_at_call 34; refine (up_any g _ _ hb (by omega)).mono ?_; rintro e w' ⟨x, rfl, hx0, hx1, hB⟩)
  go_ret
  exact ⟨a + x, rfl, by omega, by omega, hB⟩

def BoolPost (g : Nat) (w : World) (e : Ending) (w' : World) : Prop := ∃ b : Bool, e = .returned (.bool b) ∧ Bagged g w w'
theorem chance_any (g : Nat) (n m : Int) (w : World) (hb : BagAt w g) (h1 : m ≤ 1000000) (h2 : -1000000 ≤ m) :
    Calls Tryz.prog 72 #[.pointer (some ⟨g, 0, none⟩), .int .i64 n, .int .i64 m] w (BoolPost g w) := by
  go_enter Tryz.func72, Tryz.ntmps72
  go_wp2_with (go_at_call 34; refine (up_any g _ _ hb (by omega)).mono ?_; rintro e w' ⟨x, rfl, hx0, hx1, hB⟩)
  go_ret
  exact ⟨_, rfl, hB⟩

/-- What One deals: one of the list. -/
def OnePost (g : Nat) (xs : List Int) (w : World) (e : Ending) (w' : World) : Prop := ∃ x : Int, e = .returned (.int .i64 x) ∧ x ∈ xs ∧ Bagged g w w'
theorem one_any (g : Nat) (b off c : Nat) (xs : List Int) (w : World) (hb : BagAt w g) (hx : Ints w w.heap.size (some ⟨b, off, none⟩) xs) (hg : b ≠ g) (h0 : 0 < xs.length) (h1 : xs.length ≤ 1000000) :
    Calls Tryz.prog 35 #[.pointer (some ⟨g, 0, none⟩), .slice (some ⟨b, off, none⟩) xs.length c] w (OnePost g xs w) := by
  have hne : ((xs.length : Int) == 0) = false := by rw [beq_eq_false_iff_ne]; omega
  have hcell : ∀ i (hi : i < xs.length), w.cell? ⟨b, off + i, none⟩ = some (.int .i64 xs[i]) := fun i hi => by
    obtain ⟨b', off', h, _, hc⟩ := hx i _ (List.getElem?_eq_getElem hi)
    injection h with h; injection h with h1 h2; subst h1 h2; exact hc
  clear hx
  go_enter Tryz.func35, Tryz.ntmps35
  go_wp2_with fail
  refine (up_any g _ _ hb (by omega)).mono ?_
  rintro e w1 ⟨x, rfl, hx0, hx1, hB⟩
  obtain ⟨i, rfl⟩ : ∃ i : Nat, x = i := ⟨x.toNat, by omega⟩
  have hi : i < xs.length := by omega
  have hc : w1.cell? ⟨b, off + i, none⟩ = some (.int .i64 xs[i]) := (hB.cell hg).trans (hcell i hi)
  clear hcell
  go_wp2
  go_ret
  exact ⟨xs[i], rfl, List.getElem_mem hi, hB⟩

def idxFrom (n : Int) : List Int → Int → Int
  | [], _ => -1
  | x :: l, k => if x = n then k else idxFrom n l (k + 1)
/-- The first place of a number in a list, or -1. -/
def idx (xs : List Int) (n : Int) : Int := idxFrom n xs 0
theorem idxFrom_lt (n : Int) : ∀ (xs : List Int) (k : Int), 0 ≤ k → (idxFrom n xs k < 0 ↔ n ∉ xs)
  | [], k, _ => by simp [idxFrom]
  | x :: l, k, hk => by
    simp only [idxFrom]
    split
    · rename_i h; subst h; simp; omega
    · rename_i h
      rw [idxFrom_lt n l (k + 1) (by omega)]
      simp [Ne.symm h]
theorem idx_lt (xs : List Int) (n : Int) : idx xs n < 0 ↔ n ∉ xs := idxFrom_lt n xs 0 (by omega)
theorem idx_ge (xs : List Int) (n : Int) : 0 ≤ idx xs n ↔ n ∈ xs := by
  have := idx_lt xs n
  by_cases h : n ∈ xs
  · simp [h] at this ⊢; omega
  · simp [h] at this ⊢; omega
theorem idxFrom_drop (xs : List Int) (n : Int) (k : Nat) (hk : k < xs.length) : idxFrom n (xs.drop k) k = if xs[k] = n then (k : Int) else idxFrom n (xs.drop (k + 1)) ((k + 1 : Nat) : Int) := by
  rw [List.drop_eq_getElem_cons hk, idxFrom]; rfl

theorem Ints.form {w : World} {B : Nat} {A : Option Addr} {xs : List Int} (h : Ints w B A xs) :
    xs = [] ∨ ∃ b off, A = some ⟨b, off, none⟩ ∧ b < B ∧ ∀ k (hk : k < xs.length), w.cell? ⟨b, off + k, none⟩ = some (.int .i64 xs[k]) := by
  rcases h.cases with h | ⟨b, off, hA, hb, hc⟩
  · exact .inl h
  · exact .inr ⟨b, off, hA, hb, fun k hk => hc k _ (List.getElem?_eq_getElem hk)⟩

set_option maxHeartbeats 400000 in
theorem index_any (A : Option Addr) (c : Nat) (xs : List Int) (n : Int) (B : Nat) (w : World) (hx : Ints w B A xs) (hl : xs.length ≤ 9223372036854775807) :
    Calls Tryz.prog 84 #[.slice A xs.length c, .int .i64 n] w fun e w' => e = .returned (.int .i64 (idx xs n)) ∧ w = w' := by
  rcases hx.form with rfl | ⟨b, off, rfl, _, hc⟩
  · clear hx
    go_enter Tryz.func84, Tryz.ntmps84
    go_wp2
    go_loop [8] (fun i => i = .int .i64 0) (fun _ => 0)
    case atStart => rfl
    case round =>
      obtain rfl := hrel
      go_wp2
      go_ret
      exact ⟨rfl, rfl⟩
  · clear hx
    go_enter Tryz.func84, Tryz.ntmps84
    go_wp2
    go_loop [8] (fun i => ∃ k : Nat, k ≤ xs.length ∧ i = .int .i64 k ∧ Hid (idx xs n = idxFrom n (xs.drop k) k)) (fun i => xs.length - (intOf i).toNat)
    case atStart => exact ⟨0, Nat.zero_le _, rfl, rfl⟩
    case round =>
      obtain ⟨k, hk, rfl, hR⟩ := hrel
      by_cases hlt : k < xs.length
      · have hck := hc k hlt
        by_cases he : xs[k] = n
        · have hN : Hid (idx xs n = k) := by show _ = _; rw [hR.out, idxFrom_drop xs n k hlt, if_pos he]
          have hb : (n == xs[k]) = true := by rw [beq_iff_eq]; first | exact he | exact he.symm
          clear hR he
          go_wp2
          go_ret
          exact ⟨by rw [hN.out]; rfl, rfl⟩
        · have hN : Hid (idx xs n = idxFrom n (xs.drop (k + 1)) ((k + 1 : Nat) : Int)) := by show _ = _; rw [hR.out, idxFrom_drop xs n k hlt, if_neg he]
          have hb : (n == xs[k]) = false := by rw [beq_eq_false_iff_ne]; first | exact he | exact Ne.symm he
          clear hR he
          go_wp2
          go_round
          case rel => exact ⟨k + 1, by omega, by go_num, hN⟩
          case measure => simp [intOf]; omega
      · have hN : Hid (idx xs n = -1) := by show _ = _; rw [hR.out, List.drop_eq_nil_of_le (by omega)]; rfl
        clear hR
        go_wp2
        go_ret
        exact ⟨by rw [hN.out]; rfl, rfl⟩

theorem contains_any (A : Option Addr) (c : Nat) (xs : List Int) (n : Int) (B : Nat) (w : World) (hx : Ints w B A xs) (hl : xs.length ≤ 9223372036854775807) :
    Calls Tryz.prog 55 #[.slice A xs.length c, .int .i64 n] w fun e w' => e = .returned (.bool (decide (n ∈ xs))) ∧ w = w' := by
  have hI := index_any A c xs n B w hx hl
  have H := Lib.hid hI; clear hI
  have hE : decide (n ∈ xs) = decide (0 ≤ idx xs n) := decide_eq_decide.2 (idx_ge xs n).symm
  rw [hE]; clear hE
  go_enter Tryz.func55, Tryz.ntmps55
  go_wp2_with (go_at_call 84; refine H.out.mono ?_; rintro e w' ⟨rfl, rfl⟩)
  go_ret
  exact ⟨rfl, rfl⟩
end Go.Proofs.YtpbjpochjagicaaGreat
