/- Walks: a way is dealt: walkOf. Walks: what bars a car on one line: Bars. What a law's start has dealt: a net and a car in two boxes, and the bag. -/
import Derived.Test.YtpbjpochjagicaaW38
namespace Go.Proofs.Ytpbjpochjagicaa
open Go.RowKit

/-- What walkOf deals. -/
def WayDealt (g m : Nat) (w : World) (e : Ending) (w' : World) : Prop := ∃ A c way, e = .returned (.slice A way.length c) ∧ OwnInts w' (w.heap.size + 1) A c way ∧ (∀ x ∈ way, 0 ≤ x ∧ x < (m : Int)) ∧ way.length ≤ 5 ∧ Kb g w w'

set_option maxRecDepth 20000 in
set_option maxHeartbeats 4000000 in
theorem walkOf_any (g : Nat) (n : Pl.Nt) (n_tA n_sA : Option Addr) (n_tc n_sc : Nat) (fr : Int) (w : World) (hb : BagAt w g) (ht : Trks w w.heap.size n_tA n.tracks) (hne : ∀ p, n_tA = some p → p.block ≠ g) (hl : n.tracks.length ≤ 8) :
    Calls Try.prog 31 #[.pointer (some ⟨g, 0, none⟩), .agg #[.int .i64 n.stops, .slice n_tA n.tracks.length n_tc, .slice n_sA n.shops.length n_sc], .int .i64 fr] w (WayDealt g n.tracks.length w) := by
  have hg := hb.lt
  have hK0 := Lib.hid (Kb.refl hb)
  have HT := Lib.hid ht
  have HN := Lib.hid hne
  clear ht hne
  go_enter Try.func31, Try.ntmps31
  go_wp2_with fail
  refine (up_any g _ _ (hb.alloc _) (by omega)).mono ?_
  rintro e w1 ⟨m, rfl, hm0, hm1, hB1⟩
  have k1 := Lib.hid ((hK0.out.alloc _).bagged hB1)
  have hbox := (hB1.block (k := w.heap.size) (by omega)).trans (heap_alloc_new w _)
  have Hbox := Lib.hid hbox
  have e1 : w1.heap.size = w.heap.size + 1 := by rw [hB1.size]; simp
  clear hbox hB1 hK0
  go_wp2_with fail
  go_loopw [2, 7, 8] (fun f v i wr => ∃ (fr : Int) (k : Int) (way : List Int) (A : Option Addr) (c : Nat), f = .int .i64 fr ∧ v = .slice A way.length c ∧ i = .int .i64 k ∧ 0 ≤ k ∧ OwnInts wr (w.heap.size + 1) A c way ∧ k + way.length ≤ 5 ∧ (∀ x ∈ way, 0 ≤ x ∧ x < (n.tracks.length : Int)) ∧ Kb g w wr ∧ Kb g w1 wr) (fun _ _ i _ => (intOf i).toNat)
  case atStart => exact ⟨fr, m, [], none, 0, rfl, rfl, rfl, hm0, OwnInts.nil _ _, by simp; omega, by simp, k1.out, Kb.refl k1.out.bag⟩
  case round =>
    obtain ⟨fr2, k, way, A, c, rfl, rfl, rfl, hk0, hown, hlen, hin, hK, hK1⟩ := hrel
    have hbx := (hK1.block (k := w.heap.size) (by omega) (by omega)).trans Hbox.out
    have q1 : wr.cell? ⟨w.heap.size, 1, none⟩ = some (.slice n_tA n.tracks.length n_tc) := blk_cell hbx 1
    have hW := hK.size
    have HK1 := Lib.hid hK1
    clear hK1 hbx
    by_cases hgo : 0 < k ∧ 0 < (n.tracks.length : Int)
    · obtain ⟨hkp, hnp⟩ := hgo
      obtain ⟨wo, rfl⟩ : ∃ wo : World, wo = wr := ⟨_, rfl⟩
      have hform : ∃ b off, n_tA = some ⟨b, off, none⟩ ∧ b < w.heap.size ∧ b ≠ g ∧ ∀ j (hj : j < n.tracks.length), w.cell? ⟨b, off + j * 9, none⟩ = some (.int .i64 n.tracks[j].a) ∧ w.cell? ⟨b, off + j * 9 + 1, none⟩ = some (.int .i64 n.tracks[j].b) := by
        rcases HT.out.cases with h | ⟨b, off, h1, h2, h3⟩
        · rw [h] at hnp; simp at hnp
        · refine ⟨b, off, h1, h2, HN.out _ h1, fun j hj => ?_⟩
          have := trk_cells (h3 j _ (List.getElem?_eq_getElem hj))
          exact ⟨this.1, this.2.1⟩
      obtain ⟨b, off, hA, hbw, hbg, hcell⟩ := hform
      have Hcell := Lib.hid hcell
      subst hA
      have hnt : 0 < n.tracks.length := by omega
      clear hcell
      go_wp2_with fail
      refine (up_any g _ _ hK.bag (by omega)).mono ?_
      rintro e v0 ⟨x, rfl, hx0, hx1, hC⟩
      obtain ⟨k0, rfl⟩ : ∃ k0 : Nat, x = k0 := ⟨x.toNat, by omega⟩
      have hKC := (Kb.refl hK.bag).bagged hC
      go_wp2_with fail
      go_loopw [9, 10] (fun kv tv wr => ∃ kk tt : Nat, kk < n.tracks.length ∧ tt ≤ n.tracks.length ∧ kv = .int .i64 kk ∧ tv = .int .i64 tt ∧ Kb g wo wr) (fun _ t _ => n.tracks.length - (intOf t).toNat)
      case atStart => exact ⟨k0, 0, by omega, by omega, rfl, rfl, hKC⟩
      case round =>
        obtain ⟨kk, tt, hkk, htt, rfl, rfl, hKl⟩ := hrel
        clear hKC hC hx0 hx1
        have hwo : w.heap.size < wo.heap.size := by have := HK1.out.size; omega
        have hcl := Hcell.out kk hkk
        have ca := (HK1.out.cell (p := ⟨b, off + kk * 9, none⟩) (by simp; omega) (by simp; omega)).trans ((k1.out.cell (p := ⟨b, off + kk * 9, none⟩) (by simp; omega) (by simp; omega)).trans hcl.1)
        have cb := (HK1.out.cell (p := ⟨b, off + kk * 9 + 1, none⟩) (by simp; omega) (by simp; omega)).trans ((k1.out.cell (p := ⟨b, off + kk * 9 + 1, none⟩) (by simp; omega) (by simp; omega)).trans hcl.2)
        generalize n.tracks[kk].a = ta at ca hcl
        generalize n.tracks[kk].b = tb at cb hcl
        have hsl := hKl.size
        have d1 := (hKl.cell (p := ⟨w.heap.size, 1, none⟩) (by simp; omega) (by simp; omega)).trans q1
        have da := (hKl.cell (p := ⟨b, off + kk * 9, none⟩) (by simp; omega) (by simp; omega)).trans ca
        have db := (hKl.cell (p := ⟨b, off + kk * 9 + 1, none⟩) (by simp; omega) (by simp; omega)).trans cb
        have hki : (kk : Int) < (n.tracks.length : Int) := by omega
        have hwrap : IntKind.i64.wrap ((kk : Int) + 1) = (kk : Int) + 1 := IntWalk.i64_in _ ⟨by omega, by omega⟩
        have hnz' : ¬ (n.tracks.length : Int) = 0 := by omega
        by_cases hlt : (tt : Int) < (n.tracks.length : Int)
        · by_cases hfa : ta = fr2
          · subst hfa
            have hKR := Lib.hid (hK.trans hKl)
            have hrow := Lib.hid (hKl.row (by omega) hown)
            have hsR := hKl.size
            have cR1 : wr.cell? ⟨w.heap.size, 1, none⟩ = some (.slice (some ⟨b, off, none⟩) n.tracks.length n_tc) := (hKl.cell (p := ⟨w.heap.size, 1, none⟩) (by simp; omega) (by simp; omega)).trans q1
            have cRa : wr.cell? ⟨b, off + kk * 9, none⟩ = some (.int .i64 ta) := (hKl.cell (p := ⟨b, off + kk * 9, none⟩) (by simp; omega) (by simp; omega)).trans ca
            have cRb : wr.cell? ⟨b, off + kk * 9 + 1, none⟩ = some (.int .i64 tb) := (hKl.cell (p := ⟨b, off + kk * 9 + 1, none⟩) (by simp; omega) (by simp; omega)).trans cb
            have hlR : b < wr.heap.size := by omega
            have hlW : w.heap.size < wr.heap.size := by omega
            have hkpos : k - 1 + ((way.length : Int) + 1) ≤ 5 := by omega
            have hinR : ∀ x ∈ way ++ [(kk : Int)], 0 ≤ x ∧ x < (n.tracks.length : Int) := by
              intro x hx
              rw [List.mem_append] at hx
              rcases hx with hx | hx
              · exact hin x hx
              · simp at hx; omega
            have HinR := Lib.hid hinR
            have hl5 : way.length ≤ 5 := by omega
            have hr2 := hrow.out
            have hK1R := Lib.hid (HK1.out.trans hKl)
            have hcw := Lib.hid hcl
            clear hinR hin hK hKl q1 ca cb hcl d1 da db
            go_wp2_with (at_builtin; refine wpl_app_ints rfl (.tmp 66) (.tmp 68) 22 rfl (w.heap.size + 1) Try.underlying22 int_info A c way rfl (own_alloc hrow.out _) (wr.heap.size + 1) (some ⟨wr.heap.size, 0, none⟩) 1 [(kk : Int)] rfl (ints_one _ _ _ (by simp) (by omega)) (by simp; omega) (by simp; omega) ?_; intro A2 c2 w3 hown3 hg3 hat3; have hK3 := (hKR.out.alloc _).grow hg3 (fun j hj => by have := own_from hr2 j hj; omega) hg; have hK13 := (hK1R.out.alloc _).grow hg3 (fun j hj => by have := own_from hr2 j hj; omega) (by omega); have z1 := blk_cell ((hK13.block (k := w.heap.size) (by omega) (by omega)).trans Hbox.out) 1; have za := (hK3.cell (p := ⟨b, off + kk * 9, none⟩) hbw hbg).trans hcw.out.1; have zb := (hK3.cell (p := ⟨b, off + kk * 9 + 1, none⟩) hbw hbg).trans hcw.out.2; have hK3 := Lib.hid hK3; have hK13 := Lib.hid hK13; have hown3 := Lib.hid hown3; have hs3 := hK13.out.size; have zl : b < w3.heap.size := (by omega); clear hg3 hat3)
            go_roundw
            · exact ⟨_, k - 1, way ++ [(kk : Int)], A2, c2, rfl, by simp, by go_num, by omega, hown3.out, by simp; omega, HinR.out, hK3.out, hK13.out⟩
            · simp [intOf]; omega
          · have hfa' : (ta == fr2) = false := by rw [beq_eq_false_iff_ne]; exact hfa
            have hfa2 : (fr2 == ta) = false := by rw [beq_eq_false_iff_ne]; exact Ne.symm hfa
            by_cases hfb : tb = fr2
            · subst hfb
              have hKR := Lib.hid (hK.trans hKl)
              have hrow := Lib.hid (hKl.row (by omega) hown)
              have hsR := hKl.size
              have cR1 : wr.cell? ⟨w.heap.size, 1, none⟩ = some (.slice (some ⟨b, off, none⟩) n.tracks.length n_tc) := (hKl.cell (p := ⟨w.heap.size, 1, none⟩) (by simp; omega) (by simp; omega)).trans q1
              have cRa : wr.cell? ⟨b, off + kk * 9, none⟩ = some (.int .i64 ta) := (hKl.cell (p := ⟨b, off + kk * 9, none⟩) (by simp; omega) (by simp; omega)).trans ca
              have cRb : wr.cell? ⟨b, off + kk * 9 + 1, none⟩ = some (.int .i64 tb) := (hKl.cell (p := ⟨b, off + kk * 9 + 1, none⟩) (by simp; omega) (by simp; omega)).trans cb
              have hlR : b < wr.heap.size := by omega
              have hlW : w.heap.size < wr.heap.size := by omega
              have hkpos : k - 1 + ((way.length : Int) + 1) ≤ 5 := by omega
              have hinR : ∀ x ∈ way ++ [(kk : Int)], 0 ≤ x ∧ x < (n.tracks.length : Int) := by
                intro x hx
                rw [List.mem_append] at hx
                rcases hx with hx | hx
                · exact hin x hx
                · simp at hx; omega
              have HinR := Lib.hid hinR
              have hl5 : way.length ≤ 5 := by omega
              have hr2 := hrow.out
              have hK1R := Lib.hid (HK1.out.trans hKl)
              have hcw := Lib.hid hcl
              clear hinR hin hK hKl q1 ca cb hcl d1 da db
              go_wp2_with (at_builtin; refine wpl_app_ints rfl (.tmp 66) (.tmp 68) 22 rfl (w.heap.size + 1) Try.underlying22 int_info A c way rfl (own_alloc hrow.out _) (wr.heap.size + 1) (some ⟨wr.heap.size, 0, none⟩) 1 [(kk : Int)] rfl (ints_one _ _ _ (by simp) (by omega)) (by simp; omega) (by simp; omega) ?_; intro A2 c2 w3 hown3 hg3 hat3; have hK3 := (hKR.out.alloc _).grow hg3 (fun j hj => by have := own_from hr2 j hj; omega) hg; have hK13 := (hK1R.out.alloc _).grow hg3 (fun j hj => by have := own_from hr2 j hj; omega) (by omega); have z1 := blk_cell ((hK13.block (k := w.heap.size) (by omega) (by omega)).trans Hbox.out) 1; have za := (hK3.cell (p := ⟨b, off + kk * 9, none⟩) hbw hbg).trans hcw.out.1; have zb := (hK3.cell (p := ⟨b, off + kk * 9 + 1, none⟩) hbw hbg).trans hcw.out.2; have hK3 := Lib.hid hK3; have hK13 := Lib.hid hK13; have hown3 := Lib.hid hown3; have hs3 := hK13.out.size; have zl : b < w3.heap.size := (by omega); clear hg3 hat3)
              go_roundw
              · exact ⟨_, k - 1, way ++ [(kk : Int)], A2, c2, rfl, by simp, by go_num, by omega, hown3.out, by simp; omega, HinR.out, hK3.out, hK13.out⟩
              · simp [intOf]; omega
            · have hfb' : (tb == fr2) = false := by rw [beq_eq_false_iff_ne]; exact hfb
              have hfb2 : (fr2 == tb) = false := by rw [beq_eq_false_iff_ne]; exact Ne.symm hfb
              go_wp2_with fail
              refine (chance_any g _ _ _ hKl.bag (by omega) (by omega)).mono ?_
              rintro e v2 ⟨ch, rfl, hC2⟩
              have hK2 := hKl.bagged hC2
              cases ch
              · have hKl := hK2
                have hKR := Lib.hid (hK.trans hK2)
                have hrow := Lib.hid (hK2.row (by omega) hown)
                have hsR := hK2.size
                have cR1 : v2.cell? ⟨w.heap.size, 1, none⟩ = some (.slice (some ⟨b, off, none⟩) n.tracks.length n_tc) := (hK2.cell (p := ⟨w.heap.size, 1, none⟩) (by simp; omega) (by simp; omega)).trans q1
                have cRa : v2.cell? ⟨b, off + kk * 9, none⟩ = some (.int .i64 ta) := (hK2.cell (p := ⟨b, off + kk * 9, none⟩) (by simp; omega) (by simp; omega)).trans ca
                have cRb : v2.cell? ⟨b, off + kk * 9 + 1, none⟩ = some (.int .i64 tb) := (hK2.cell (p := ⟨b, off + kk * 9 + 1, none⟩) (by simp; omega) (by simp; omega)).trans cb
                have hlR : b < v2.heap.size := by omega
                have hlW : w.heap.size < v2.heap.size := by omega
                have hkpos : k - 1 + ((way.length : Int) + 1) ≤ 5 := by omega
                have hinR : ∀ x ∈ way ++ [(kk : Int)], 0 ≤ x ∧ x < (n.tracks.length : Int) := by
                  intro x hx
                  rw [List.mem_append] at hx
                  rcases hx with hx | hx
                  · exact hin x hx
                  · simp at hx; omega
                have HinR := Lib.hid hinR
                have hl5 : way.length ≤ 5 := by omega
                have hr2 := hrow.out
                have hK1R := Lib.hid (HK1.out.trans hK2)
                have hcw := Lib.hid hcl
                clear hinR hin hK hKl q1 ca cb hcl d1 da db
                go_wp2_with (at_builtin; refine wpl_app_ints rfl (.tmp 66) (.tmp 68) 22 rfl (w.heap.size + 1) Try.underlying22 int_info A c way rfl (own_alloc hrow.out _) (v2.heap.size + 1) (some ⟨v2.heap.size, 0, none⟩) 1 [(kk : Int)] rfl (ints_one _ _ _ (by simp) (by omega)) (by simp; omega) (by simp; omega) ?_; intro A2 c2 w3 hown3 hg3 hat3; have hK3 := (hKR.out.alloc _).grow hg3 (fun j hj => by have := own_from hr2 j hj; omega) hg; have hK13 := (hK1R.out.alloc _).grow hg3 (fun j hj => by have := own_from hr2 j hj; omega) (by omega); have z1 := blk_cell ((hK13.block (k := w.heap.size) (by omega) (by omega)).trans Hbox.out) 1; have za := (hK3.cell (p := ⟨b, off + kk * 9, none⟩) hbw hbg).trans hcw.out.1; have zb := (hK3.cell (p := ⟨b, off + kk * 9 + 1, none⟩) hbw hbg).trans hcw.out.2; have hK3 := Lib.hid hK3; have hK13 := Lib.hid hK13; have hown3 := Lib.hid hown3; have hs3 := hK13.out.size; have zl : b < w3.heap.size := (by omega); clear hg3 hat3)
                go_roundw
                · exact ⟨_, k - 1, way ++ [(kk : Int)], A2, c2, rfl, by simp, by go_num, by omega, hown3.out, by simp; omega, HinR.out, hK3.out, hK13.out⟩
                · simp [intOf]; omega
              · have d2 := (hC2.cell (p := ⟨w.heap.size, 1, none⟩) (by simp; omega)).trans d1
                go_wp2_with fail
                go_roundw
                · have hm0 : 0 ≤ ((kk : Int) + 1) % (n.tracks.length : Int) := Int.emod_nonneg _ hnz'
                  have hm1 : ((kk : Int) + 1) % (n.tracks.length : Int) < n.tracks.length := Int.emod_lt_of_pos _ (by omega)
                  exact ⟨(((kk : Int) + 1) % (n.tracks.length : Int)).toNat, tt + 1, by omega, by omega, by rw [Int.toNat_of_nonneg hm0], by go_num, hK2⟩
                · simp [intOf]; omega
        · obtain rfl : tt = n.tracks.length := by omega
          clear hlt
          by_cases hfa : ta = fr2
          · subst hfa
            have hKR := Lib.hid (hK.trans hKl)
            have hrow := Lib.hid (hKl.row (by omega) hown)
            have hsR := hKl.size
            have cR1 : wr.cell? ⟨w.heap.size, 1, none⟩ = some (.slice (some ⟨b, off, none⟩) n.tracks.length n_tc) := (hKl.cell (p := ⟨w.heap.size, 1, none⟩) (by simp; omega) (by simp; omega)).trans q1
            have cRa : wr.cell? ⟨b, off + kk * 9, none⟩ = some (.int .i64 ta) := (hKl.cell (p := ⟨b, off + kk * 9, none⟩) (by simp; omega) (by simp; omega)).trans ca
            have cRb : wr.cell? ⟨b, off + kk * 9 + 1, none⟩ = some (.int .i64 tb) := (hKl.cell (p := ⟨b, off + kk * 9 + 1, none⟩) (by simp; omega) (by simp; omega)).trans cb
            have hlR : b < wr.heap.size := by omega
            have hlW : w.heap.size < wr.heap.size := by omega
            have hkpos : k - 1 + ((way.length : Int) + 1) ≤ 5 := by omega
            have hinR : ∀ x ∈ way ++ [(kk : Int)], 0 ≤ x ∧ x < (n.tracks.length : Int) := by
              intro x hx
              rw [List.mem_append] at hx
              rcases hx with hx | hx
              · exact hin x hx
              · simp at hx; omega
            have HinR := Lib.hid hinR
            have hl5 : way.length ≤ 5 := by omega
            have hr2 := hrow.out
            have hK1R := Lib.hid (HK1.out.trans hKl)
            have hcw := Lib.hid hcl
            clear hinR hin hK hKl q1 ca cb hcl d1 da db
            go_wp2_with (at_builtin; refine wpl_app_ints rfl (.tmp 66) (.tmp 68) 22 rfl (w.heap.size + 1) Try.underlying22 int_info A c way rfl (own_alloc hrow.out _) (wr.heap.size + 1) (some ⟨wr.heap.size, 0, none⟩) 1 [(kk : Int)] rfl (ints_one _ _ _ (by simp) (by omega)) (by simp; omega) (by simp; omega) ?_; intro A2 c2 w3 hown3 hg3 hat3; have hK3 := (hKR.out.alloc _).grow hg3 (fun j hj => by have := own_from hr2 j hj; omega) hg; have hK13 := (hK1R.out.alloc _).grow hg3 (fun j hj => by have := own_from hr2 j hj; omega) (by omega); have z1 := blk_cell ((hK13.block (k := w.heap.size) (by omega) (by omega)).trans Hbox.out) 1; have za := (hK3.cell (p := ⟨b, off + kk * 9, none⟩) hbw hbg).trans hcw.out.1; have zb := (hK3.cell (p := ⟨b, off + kk * 9 + 1, none⟩) hbw hbg).trans hcw.out.2; have hK3 := Lib.hid hK3; have hK13 := Lib.hid hK13; have hown3 := Lib.hid hown3; have hs3 := hK13.out.size; have zl : b < w3.heap.size := (by omega); clear hg3 hat3)
            go_roundw
            · exact ⟨_, k - 1, way ++ [(kk : Int)], A2, c2, rfl, by simp, by go_num, by omega, hown3.out, by simp; omega, HinR.out, hK3.out, hK13.out⟩
            · simp [intOf]; omega
          · have hfa' : (ta == fr2) = false := by rw [beq_eq_false_iff_ne]; exact hfa
            have hfa2 : (fr2 == ta) = false := by rw [beq_eq_false_iff_ne]; exact Ne.symm hfa
            by_cases hfb : tb = fr2
            · subst hfb
              have hKR := Lib.hid (hK.trans hKl)
              have hrow := Lib.hid (hKl.row (by omega) hown)
              have hsR := hKl.size
              have cR1 : wr.cell? ⟨w.heap.size, 1, none⟩ = some (.slice (some ⟨b, off, none⟩) n.tracks.length n_tc) := (hKl.cell (p := ⟨w.heap.size, 1, none⟩) (by simp; omega) (by simp; omega)).trans q1
              have cRa : wr.cell? ⟨b, off + kk * 9, none⟩ = some (.int .i64 ta) := (hKl.cell (p := ⟨b, off + kk * 9, none⟩) (by simp; omega) (by simp; omega)).trans ca
              have cRb : wr.cell? ⟨b, off + kk * 9 + 1, none⟩ = some (.int .i64 tb) := (hKl.cell (p := ⟨b, off + kk * 9 + 1, none⟩) (by simp; omega) (by simp; omega)).trans cb
              have hlR : b < wr.heap.size := by omega
              have hlW : w.heap.size < wr.heap.size := by omega
              have hkpos : k - 1 + ((way.length : Int) + 1) ≤ 5 := by omega
              have hinR : ∀ x ∈ way ++ [(kk : Int)], 0 ≤ x ∧ x < (n.tracks.length : Int) := by
                intro x hx
                rw [List.mem_append] at hx
                rcases hx with hx | hx
                · exact hin x hx
                · simp at hx; omega
              have HinR := Lib.hid hinR
              have hl5 : way.length ≤ 5 := by omega
              have hr2 := hrow.out
              have hK1R := Lib.hid (HK1.out.trans hKl)
              have hcw := Lib.hid hcl
              clear hinR hin hK hKl q1 ca cb hcl d1 da db
              go_wp2_with (at_builtin; refine wpl_app_ints rfl (.tmp 66) (.tmp 68) 22 rfl (w.heap.size + 1) Try.underlying22 int_info A c way rfl (own_alloc hrow.out _) (wr.heap.size + 1) (some ⟨wr.heap.size, 0, none⟩) 1 [(kk : Int)] rfl (ints_one _ _ _ (by simp) (by omega)) (by simp; omega) (by simp; omega) ?_; intro A2 c2 w3 hown3 hg3 hat3; have hK3 := (hKR.out.alloc _).grow hg3 (fun j hj => by have := own_from hr2 j hj; omega) hg; have hK13 := (hK1R.out.alloc _).grow hg3 (fun j hj => by have := own_from hr2 j hj; omega) (by omega); have z1 := blk_cell ((hK13.block (k := w.heap.size) (by omega) (by omega)).trans Hbox.out) 1; have za := (hK3.cell (p := ⟨b, off + kk * 9, none⟩) hbw hbg).trans hcw.out.1; have zb := (hK3.cell (p := ⟨b, off + kk * 9 + 1, none⟩) hbw hbg).trans hcw.out.2; have hK3 := Lib.hid hK3; have hK13 := Lib.hid hK13; have hown3 := Lib.hid hown3; have hs3 := hK13.out.size; have zl : b < w3.heap.size := (by omega); clear hg3 hat3)
              go_roundw
              · exact ⟨_, k - 1, way ++ [(kk : Int)], A2, c2, rfl, by simp, by go_num, by omega, hown3.out, by simp; omega, HinR.out, hK3.out, hK13.out⟩
              · simp [intOf]; omega
            · have hfb' : (tb == fr2) = false := by rw [beq_eq_false_iff_ne]; exact hfb
              have hfb2 : (fr2 == tb) = false := by rw [beq_eq_false_iff_ne]; exact Ne.symm hfb
              have hKR := Lib.hid (hK.trans hKl)
              have hrow := Lib.hid (hKl.row (by omega) hown)
              have hsR := hKl.size
              have cR1 : wr.cell? ⟨w.heap.size, 1, none⟩ = some (.slice (some ⟨b, off, none⟩) n.tracks.length n_tc) := (hKl.cell (p := ⟨w.heap.size, 1, none⟩) (by simp; omega) (by simp; omega)).trans q1
              have cRa : wr.cell? ⟨b, off + kk * 9, none⟩ = some (.int .i64 ta) := (hKl.cell (p := ⟨b, off + kk * 9, none⟩) (by simp; omega) (by simp; omega)).trans ca
              have cRb : wr.cell? ⟨b, off + kk * 9 + 1, none⟩ = some (.int .i64 tb) := (hKl.cell (p := ⟨b, off + kk * 9 + 1, none⟩) (by simp; omega) (by simp; omega)).trans cb
              have hlR : b < wr.heap.size := by omega
              have hlW : w.heap.size < wr.heap.size := by omega
              have hkpos : k - 1 + ((way.length : Int) + 1) ≤ 5 := by omega
              have hinR : ∀ x ∈ way ++ [(kk : Int)], 0 ≤ x ∧ x < (n.tracks.length : Int) := by
                intro x hx
                rw [List.mem_append] at hx
                rcases hx with hx | hx
                · exact hin x hx
                · simp at hx; omega
              have HinR := Lib.hid hinR
              have hl5 : way.length ≤ 5 := by omega
              have hr2 := hrow.out
              have hK1R := Lib.hid (HK1.out.trans hKl)
              have hcw := Lib.hid hcl
              clear hinR hin hK hKl q1 ca cb hcl d1 da db
              go_wp2_with (at_builtin; refine wpl_app_ints rfl (.tmp 66) (.tmp 68) 22 rfl (w.heap.size + 1) Try.underlying22 int_info A c way rfl (own_alloc hrow.out _) (wr.heap.size + 1) (some ⟨wr.heap.size, 0, none⟩) 1 [(kk : Int)] rfl (ints_one _ _ _ (by simp) (by omega)) (by simp; omega) (by simp; omega) ?_; intro A2 c2 w3 hown3 hg3 hat3; have hK3 := (hKR.out.alloc _).grow hg3 (fun j hj => by have := own_from hr2 j hj; omega) hg; have hK13 := (hK1R.out.alloc _).grow hg3 (fun j hj => by have := own_from hr2 j hj; omega) (by omega); have z1 := blk_cell ((hK13.block (k := w.heap.size) (by omega) (by omega)).trans Hbox.out) 1; have za := (hK3.cell (p := ⟨b, off + kk * 9, none⟩) hbw hbg).trans hcw.out.1; have zb := (hK3.cell (p := ⟨b, off + kk * 9 + 1, none⟩) hbw hbg).trans hcw.out.2; have hK3 := Lib.hid hK3; have hK13 := Lib.hid hK13; have hown3 := Lib.hid hown3; have hs3 := hK13.out.size; have zl : b < w3.heap.size := (by omega); clear hg3 hat3)
              go_roundw
              · exact ⟨_, k - 1, way ++ [(kk : Int)], A2, c2, rfl, by simp, by go_num, by omega, hown3.out, by simp; omega, HinR.out, hK3.out, hK13.out⟩
              · simp [intOf]; omega
    · have hcase : k ≤ 0 ∨ (0 < k ∧ (n.tracks.length : Int) ≤ 0) := by omega
      clear hgo
      rcases hcase with hk | ⟨hk, hk2⟩
      all_goals
        go_wp2_with fail
        go_ret
        exact ⟨A, c, way, rfl, hown, hin, by omega, hK⟩
end Go.Proofs.Ytpbjpochjagicaa

namespace Go.Proofs.Ytpbjpochjagicaa
open Go.RowKit

/-- What Bars hands back. -/
def barsOf (n : Pl.Nt) (c : Pl.Cch) (k : Int) : List Int × Int :=
  if Pl.both n c ≠ 0 then ([], Pl.both n c) else if Pl.out k 0 ((n.tracks.length : Int) - 1) then ([], 3) else (Pl.barred c (n.tracks.getD k.toNat default), 0)
def BarsPost (r : List Int × Int) (w : World) (e : Ending) (w' : World) : Prop := ∃ A cp, e = .returned (.tuple #[.slice A r.1.length cp, .int .i64 r.2]) ∧ OwnInts w' w.heap.size A cp r.1 ∧ Below w.heap.size w w'

set_option maxHeartbeats 2000000 in
theorem bars_any (n : Pl.Nt) (n_tA n_sA : Option Addr) (n_tc n_sc : Nat) (c : Pl.Cch) (c_gA c_bA c_hA : Option Addr) (c_gc c_bc c_hc : Nat) (k : Int) (w : World) (hn : NReads w w.heap.size n n_tA n_sA n_tc n_sc) (hr : CReads w w.heap.size c c_gA c_bA c_hA c_gc c_bc c_hc) :
    Calls Try.prog 33 #[.agg #[.int .i64 n.stops, .slice n_tA n.tracks.length n_tc, .slice n_sA n.shops.length n_sc], .agg #[.slice c_gA c.gauges.length c_gc, .int .i64 c.size, .int .i64 c.load, .slice c_bA c.brakes.length c_bc, .slice c_hA c.heats.length c_hc, .bool c.hooks], .int .i64 k] w (BarsPost (barsOf n c k) w) := by
  have hb2 : ∀ (o1 o2 : Obj), Below w.heap.size w ((w.alloc o1).alloc o2) := fun o1 o2 => ((Below.refl _ _).alloc (Nat.le_refl _) _).alloc (by simp) _
  have Hn := Lib.hid (((hn.below (hb2 (.cells #[.int .i64 n.stops, .slice n_tA n.tracks.length n_tc, .slice n_sA n.shops.length n_sc] 27) (.cells #[.slice c_gA c.gauges.length c_gc, .int .i64 c.size, .int .i64 c.load, .slice c_bA c.brakes.length c_bc, .slice c_hA c.heats.length c_hc, .bool c.hooks] 30)))).more (B' := w.heap.size + 1 + 1) (by omega))
  have Hr := Lib.hid (((hr.below (hb2 (.cells #[.int .i64 n.stops, .slice n_tA n.tracks.length n_tc, .slice n_sA n.shops.length n_sc] 27) (.cells #[.slice c_gA c.gauges.length c_gc, .int .i64 c.size, .int .i64 c.load, .slice c_bA c.brakes.length c_bc, .slice c_hA c.heats.length c_hc, .bool c.hooks] 30)))).more (B' := w.heap.size + 1 + 1) (by omega))
  have hlT := hn.lenT
  have HB2 := Lib.hid hb2; clear hb2 hn hr
  have HM0 : Hid (((w.alloc (.cells #[.int .i64 n.stops, .slice n_tA n.tracks.length n_tc, .slice n_sA n.shops.length n_sc] 27)).alloc (.cells #[.slice c_gA c.gauges.length c_gc, .int .i64 c.size, .int .i64 c.load, .slice c_bA c.brakes.length c_bc, .slice c_hA c.heats.length c_hc, .bool c.hooks] 30)).heap[w.heap.size]? = some (.cells #[.int .i64 n.stops, .slice n_tA n.tracks.length n_tc, .slice n_sA n.shops.length n_sc] 27 (0, 0))) := blk_alloc (heap_alloc_new w _) _
  have HM1 : Hid (((w.alloc (.cells #[.int .i64 n.stops, .slice n_tA n.tracks.length n_tc, .slice n_sA n.shops.length n_sc] 27)).alloc (.cells #[.slice c_gA c.gauges.length c_gc, .int .i64 c.size, .int .i64 c.load, .slice c_bA c.brakes.length c_bc, .slice c_hA c.heats.length c_hc, .bool c.hooks] 30)).heap[w.heap.size + 1]? = some (.cells #[.slice c_gA c.gauges.length c_gc, .int .i64 c.size, .int .i64 c.load, .slice c_bA c.brakes.length c_bc, .slice c_hA c.heats.length c_hc, .bool c.hooks] 30 (0, 0))) := by
    have := heap_alloc_new (w.alloc (.cells #[.int .i64 n.stops, .slice n_tA n.tracks.length n_tc, .slice n_sA n.shops.length n_sc] 27)) (.cells #[.slice c_gA c.gauges.length c_gc, .int .i64 c.size, .int .i64 c.load, .slice c_bA c.brakes.length c_bc, .slice c_hA c.heats.length c_hc, .bool c.hooks] 30)
    show _ = _
    simpa using this
  by_cases e1 : Pl.both n c = 0
  · cases ho : Pl.out k 0 ((n.tracks.length : Int) - 1)
    · have hk0 : 0 ≤ k ∧ k ≤ (n.tracks.length : Int) - 1 := by simp [Pl.out] at ho; exact ho
      obtain ⟨kk, rfl⟩ : ∃ kk : Nat, k = kk := ⟨k.toNat, by omega⟩
      have hkk : kk < n.tracks.length := by omega
      have hN : barsOf n c kk = (Pl.barred c n.tracks[kk], 0) := by
        simp [barsOf, e1, ho, List.getD_eq_getElem?_getD, List.getElem?_eq_getElem hkk]
      rw [hN]
      clear hN hk0
      go_enter Try.func33, Try.ntmps33
      go_wp2_with fail
      refine (both_any n n_tA n_sA n_tc n_sc c c_gA c_bA c_hA c_gc c_bc c_hc _ (by simpa using Hn.out) (by simpa using Hr.out)).mono ?_
      rintro e w1 ⟨rfl, hb⟩
      have m0 := Lib.hid (blk_below HM0.out hb (by simp; omega)); have m1 := Lib.hid (blk_below HM1.out hb (by simp))
      have z1 : w1.cell? ⟨w.heap.size, 1, none⟩ = some (.slice n_tA n.tracks.length n_tc) := blk_cell m0.out 1
      have x0 : w1.cell? ⟨w.heap.size + 1, 0, none⟩ = some (.slice c_gA c.gauges.length c_gc) := blk_cell m1.out 0
      have x1 : w1.cell? ⟨w.heap.size + 1, 1, none⟩ = some (.int .i64 c.size) := blk_cell m1.out 1
      have x2 : w1.cell? ⟨w.heap.size + 1, 2, none⟩ = some (.int .i64 c.load) := blk_cell m1.out 2
      have x3 : w1.cell? ⟨w.heap.size + 1, 3, none⟩ = some (.slice c_bA c.brakes.length c_bc) := blk_cell m1.out 3
      have x4 : w1.cell? ⟨w.heap.size + 1, 4, none⟩ = some (.slice c_hA c.heats.length c_hc) := blk_cell m1.out 4
      have x5 : w1.cell? ⟨w.heap.size + 1, 5, none⟩ = some (.bool c.hooks) := blk_cell m1.out 5
      have hsz := hb.size
      have HW := Lib.hid ((HB2.out (.cells #[.int .i64 n.stops, .slice n_tA n.tracks.length n_tc, .slice n_sA n.shops.length n_sc] 27) (.cells #[.slice c_gA c.gauges.length c_gc, .int .i64 c.size, .int .i64 c.load, .slice c_bA c.brakes.length c_bc, .slice c_hA c.heats.length c_hc, .bool c.hooks] 30)).trans (hb.mono (by simp; omega)))
      have Hcar := Lib.hid (car_made w1 c c_gA c_bA c_hA c_gc c_bc c_hc n n_tA n_sA n_tc n_sc m0.out)
      have hs1 : w.heap.size + 1 + 1 ≤ w1.heap.size := by simpa using hsz
      have HB3 := Lib.hid ((HW.out).alloc (by omega) (.cells (#[.slice c_gA c.gauges.length c_gc, .int .i64 c.size, .int .i64 c.load, .slice c_bA c.brakes.length c_bc, .slice c_hA c.heats.length c_hc, .bool c.hooks] ++ #[.pointer (some ⟨w.heap.size, 0, none⟩), .slice none 0 0]) 100))
      have Hn3 := Lib.hid ((Hn.out.below (by simpa using hb)).more hs1)
      have Hr3 := Lib.hid ((Hr.out.below (by simpa using hb)).more hs1)
      clear hb hsz
      rw [e1]
      go_wp2_with (first | (go_at_call 81; refine (out_any _ _ _ _).mono ?_; rintro e w' ⟨rfl, rfl⟩))
      refine (barred_any w1.heap.size w.heap.size c c_gA c_bA c_hA c_gc c_bc c_hc n n_tA n_sA n_tc n_sc none 0 0 kk hkk _ Hcar.out ((Hr3.out.alloc (Nat.le_refl _) _).more (by simp)) ((Hn3.out.alloc (Nat.le_refl _) _).more (by simp))).mono ?_
      rintro e w2 ⟨A, cp, rfl, hown, hb2⟩
      have HW2 := Lib.hid (HB3.out.trans (hb2.mono (by simp; omega)))
      have Hown := Lib.hid (own_weaken (base := w.heap.size) hown (by simp; omega))
      clear hb2 hown
      go_wp2_with fail
      go_ret2
      exact ⟨A, cp, rfl, Hown.out, HW2.out⟩
    · have hN : barsOf n c k = ([], 3) := by simp [barsOf, e1, ho]
      rw [hN]
      clear hN
      go_enter Try.func33, Try.ntmps33
      go_wp2_with fail
      refine (both_any n n_tA n_sA n_tc n_sc c c_gA c_bA c_hA c_gc c_bc c_hc _ (by simpa using Hn.out) (by simpa using Hr.out)).mono ?_
      rintro e w1 ⟨rfl, hb⟩
      have m0 := Lib.hid (blk_below HM0.out hb (by simp; omega))
      have z1 : w1.cell? ⟨w.heap.size, 1, none⟩ = some (.slice n_tA n.tracks.length n_tc) := blk_cell m0.out 1
      have HW := Lib.hid ((HB2.out (.cells #[.int .i64 n.stops, .slice n_tA n.tracks.length n_tc, .slice n_sA n.shops.length n_sc] 27) (.cells #[.slice c_gA c.gauges.length c_gc, .int .i64 c.size, .int .i64 c.load, .slice c_bA c.brakes.length c_bc, .slice c_hA c.heats.length c_hc, .bool c.hooks] 30)).trans (hb.mono (by simp; omega)))
      clear hb
      rw [e1]
      go_wp2_with (first | (go_at_call 81; refine (out_any _ _ _ _).mono ?_; rintro e w' ⟨rfl, rfl⟩))
      go_ret2
      exact ⟨none, 0, rfl, OwnInts.nil _ _, HW.out⟩
  · have hN : barsOf n c k = ([], Pl.both n c) := by simp [barsOf, e1]
    rw [hN]
    have hq : (Pl.both n c != 0) = true := by rw [bne_iff_ne]; exact e1
    clear e1 hN
    go_enter Try.func33, Try.ntmps33
    go_wp2_with fail
    refine (both_any n n_tA n_sA n_tc n_sc c c_gA c_bA c_hA c_gc c_bc c_hc _ (by simpa using Hn.out) (by simpa using Hr.out)).mono ?_
    rintro e w1 ⟨rfl, hb⟩
    have HW := Lib.hid ((HB2.out (.cells #[.int .i64 n.stops, .slice n_tA n.tracks.length n_tc, .slice n_sA n.shops.length n_sc] 27) (.cells #[.slice c_gA c.gauges.length c_gc, .int .i64 c.size, .int .i64 c.load, .slice c_bA c.brakes.length c_bc, .slice c_hA c.heats.length c_hc, .bool c.hooks] 30)).trans (hb.mono (by simp; omega)))
    clear hb
    go_wp2_with fail
    go_ret2
    exact ⟨none, 0, rfl, OwnInts.nil _ _, HW.out⟩
end Go.Proofs.Ytpbjpochjagicaa

namespace Go.Proofs.Ytpbjpochjagicaa
open Go.RowKit

/-- A net and a car that the bag in block g has dealt, in boxes P and Q. -/
structure Dealt (g B P Q : Nat) (w : World) (n : Pl.Nt) (n_tA n_sA : Option Addr) (n_tc n_sc : Nat) (c : Pl.Cch) (c_gA c_bA c_hA : Option Addr) (c_gc c_bc c_hc : Nat) : Prop where
  tr : OwnTrks w B n_tA n_tc n.tracks
  sh : OwnInts w B n_sA n_sc n.shops
  ga : OwnInts w B c_gA c_gc c.gauges
  br : OwnInts w B c_bA c_bc c.brakes
  he : OwnInts w B c_hA c_hc c.heats
  b4 : w.heap[P]? = some (.cells #[.int .i64 n.stops, .slice n_tA n.tracks.length n_tc, .slice n_sA n.shops.length n_sc] 27 (0, 0))
  b5 : w.heap[Q]? = some (.cells #[.slice c_gA c.gauges.length c_gc, .int .i64 c.size, .int .i64 c.load, .slice c_bA c.brakes.length c_bc, .slice c_hA c.heats.length c_hc, .bool c.hooks] 30 (0, 0))
  bag : BagAt w g
  gB : g < B
  gP : g < P
  gQ : g < Q
  ck : Pl.check n = 0
  ft : Pl.fits c = 0
  st : 1 ≤ n.stops
  st6 : n.stops ≤ 6
  t8 : n.tracks.length ≤ 8
  s6 : n.shops.length ≤ 6
  ng : 0 < c.gauges.length
  lg : c.gauges.length ≤ 3
  lb : c.brakes.length ≤ 3
  lh : c.heats.length ≤ 3
section
variable {g B P Q : Nat} {w w' : World} {n : Pl.Nt} {n_tA n_sA : Option Addr} {n_tc n_sc : Nat} {c : Pl.Cch} {c_gA c_bA c_hA : Option Addr} {c_gc c_bc c_hc : Nat}
theorem Dealt.kb (h : Dealt g B P Q w n n_tA n_sA n_tc n_sc c c_gA c_bA c_hA c_gc c_bc c_hc) (k : Kb g w w') : Dealt g B P Q w' n n_tA n_sA n_tc n_sc c c_gA c_bA c_hA c_gc c_bc c_hc :=
  have hP := lt_of_block h.b4
  have hQ := lt_of_block h.b5
  { h with
    tr := k.row h.gB h.tr, sh := k.row h.gB h.sh, ga := k.row h.gB h.ga, br := k.row h.gB h.br, he := k.row h.gB h.he
    b4 := (k.block hP (by have := h.gP; omega)).trans h.b4, b5 := (k.block hQ (by have := h.gQ; omega)).trans h.b5, bag := k.bag }
theorem Dealt.bagged (h : Dealt g B P Q w n n_tA n_sA n_tc n_sc c c_gA c_bA c_hA c_gc c_bc c_hc) (k : Bagged g w w') : Dealt g B P Q w' n n_tA n_sA n_tc n_sc c c_gA c_bA c_hA c_gc c_bc c_hc := h.kb ((Kb.refl h.bag).bagged k)
theorem Dealt.drew (h : Dealt g B P Q w n n_tA n_sA n_tc n_sc c c_gA c_bA c_hA c_gc c_bc c_hc) : Dealt g B P Q w.drew n n_tA n_sA n_tc n_sc c c_gA c_bA c_hA c_gc c_bc c_hc := h.kb (Kb.refl h.bag).drew
theorem Dealt.alloc (h : Dealt g B P Q w n n_tA n_sA n_tc n_sc c c_gA c_bA c_hA c_gc c_bc c_hc) (o : Obj) : Dealt g B P Q (w.alloc o) n n_tA n_sA n_tc n_sc c c_gA c_bA c_hA c_gc c_bc c_hc := h.kb ((Kb.refl h.bag).alloc o)
theorem Dealt.below (h : Dealt g B P Q w n n_tA n_sA n_tc n_sc c c_gA c_bA c_hA c_gc c_bc c_hc) (k : Below w.heap.size w w') : Dealt g B P Q w' n n_tA n_sA n_tc n_sc c c_gA c_bA c_hA c_gc c_bc c_hc :=
  h.kb ⟨h.bag.below k h.bag.lt, k.os, k.tape, k.output, k.size, fun i hi _ => k.block i hi⟩
theorem Dealt.nreads (h : Dealt g B P Q w n n_tA n_sA n_tc n_sc c c_gA c_bA c_hA c_gc c_bc c_hc) : NReads w w.heap.size n n_tA n_sA n_tc n_sc := ⟨h.tr.trks, h.sh.ints, by have := h.t8; omega, by have := h.s6; omega⟩
theorem Dealt.creads (h : Dealt g B P Q w n n_tA n_sA n_tc n_sc c c_gA c_bA c_hA c_gc c_bc c_hc) : CReads w w.heap.size c c_gA c_bA c_hA c_gc c_bc c_hc := ⟨h.ga.ints, h.br.ints, h.he.ints, by have := h.lg; omega, by have := h.lb; omega, by have := h.lh; omega⟩
theorem Dealt.ncells (h : Dealt g B P Q w n n_tA n_sA n_tc n_sc c c_gA c_bA c_hA c_gc c_bc c_hc) : w.cell? ⟨P, 0, none⟩ = some (.int .i64 n.stops) ∧ w.cell? ⟨P, 1, none⟩ = some (.slice n_tA n.tracks.length n_tc) ∧ w.cell? ⟨P, 2, none⟩ = some (.slice n_sA n.shops.length n_sc) :=
  ⟨blk_cell h.b4 0, blk_cell h.b4 1, blk_cell h.b4 2⟩
theorem Dealt.ccells (h : Dealt g B P Q w n n_tA n_sA n_tc n_sc c c_gA c_bA c_hA c_gc c_bc c_hc) : w.cell? ⟨Q, 0, none⟩ = some (.slice c_gA c.gauges.length c_gc) ∧ w.cell? ⟨Q, 1, none⟩ = some (.int .i64 c.size) ∧ w.cell? ⟨Q, 2, none⟩ = some (.int .i64 c.load) ∧
    w.cell? ⟨Q, 3, none⟩ = some (.slice c_bA c.brakes.length c_bc) ∧ w.cell? ⟨Q, 4, none⟩ = some (.slice c_hA c.heats.length c_hc) ∧ w.cell? ⟨Q, 5, none⟩ = some (.bool c.hooks) :=
  ⟨blk_cell h.b5 0, blk_cell h.b5 1, blk_cell h.b5 2, blk_cell h.b5 3, blk_cell h.b5 4, blk_cell h.b5 5⟩
/-- The gauges' row. -/
theorem Dealt.gauges (h : Dealt g B P Q w n n_tA n_sA n_tc n_sc c c_gA c_bA c_hA c_gc c_bc c_hc) : ∃ b, c_gA = some ⟨b, 0, none⟩ ∧ b ≠ g := by
  have hg := h.gB
  rcases h.ga.2 with ⟨_, h2⟩ | ⟨b, cap, cur, hv, hb, _⟩
  · have := h.ng; omega
  · injection hv with hv _ _
    exact ⟨b, hv, by omega⟩
theorem Dealt.apart (h : Dealt g B P Q w n n_tA n_sA n_tc n_sc c c_gA c_bA c_hA c_gc c_bc c_hc) : ∀ p, n_tA = some p → p.block ≠ g := fun p hp => by
  subst hp
  have hg := h.gB
  rcases h.tr.2 with ⟨h2, _⟩ | ⟨b, cap, cur, hv, hb, _⟩
  · cases h2
  · injection hv with hv _ _
    injection hv with hv
    subst hv
    show b ≠ g
    omega
theorem Dealt.both (h : Dealt g B P Q w n n_tA n_sA n_tc n_sc c c_gA c_bA c_hA c_gc c_bc c_hc) : Pl.both n c = 0 := by simp [Pl.both, h.ck, h.ft]
theorem Dealt.question (h : Dealt g B P Q w n n_tA n_sA n_tc n_sc c c_gA c_bA c_hA c_gc c_bc c_hc) {fr gg : Int} (h0 : 0 ≤ fr) (h1 : fr ≤ n.stops - 1) (hg : gg ∈ c.gauges) : Pl.question n c fr gg = 0 := by
  have ho : Pl.out fr 0 (n.stops - 1) = false := by simp [Pl.out]; omega
  simp [Pl.question, h.both, ho, hg]
theorem Dealt.printed (h : Dealt g B P Q w n n_tA n_sA n_tc n_sc c c_gA c_bA c_hA c_gc c_bc c_hc) {fr gg : Int} {way : List Int} (h0 : 0 ≤ fr) (h1 : fr ≤ n.stops - 1) (hg : gg ∈ c.gauges) (hw : ∀ x ∈ way, 0 ≤ x ∧ x < (n.tracks.length : Int)) : Pl.printed n c fr gg way = 0 := by
  have hu : Pl.unknownIn n.tracks.length way = false := by
    rw [Pl.unknownIn, List.any_eq_false]
    intro x hx
    have := hw x hx
    simp [Pl.out]
    omega
  simp [Pl.printed, h.question h0 h1 hg, hu]
end
theorem fits_dealt {c : Pl.Cch} (h0 : 0 < c.gauges.length) (h1 : Pl.rising c.gauges 1 3 1 = 0) (h2 : Pl.rising c.brakes 1 3 1 = 0) (h3 : Pl.rising c.heats 1 3 1 = 0) (h4 : 2 ≤ c.size) (h5 : c.size ≤ 5) (h6 : 6 ≤ c.load) (h7 : c.load ≤ 12) : Pl.fits c = 0 := by
  have e : ¬ c.gauges = [] := by intro e; rw [e] at h0; simp at h0
  have o1 : Pl.out c.size 1 9 = false := by simp [Pl.out]; omega
  have o2 : Pl.out c.load 1 20 = false := by simp [Pl.out]; omega
  simp [Pl.fits, e, h1, h2, h3, o1, o2]
/-- What the start of a law has dealt, put together. -/
theorem dealt_of {g : Nat} {st tk : Int} {w1 w2 w3 w4 : World} {P Q : Nat} (n : Pl.Nt) (n_tA n_sA : Option Addr) (n_tc n_sc : Nat) (c : Pl.Cch) (c_gA c_bA c_hA : Option Addr) (c_gc c_bc c_hc : Nat) (hg : g < w1.heap.size) (htr : OwnTrks w2 (w1.heap.size + 2) n_tA n_tc n.tracks) (hsh : OwnInts w2 (w1.heap.size + 2) n_sA n_sc n.shops)
    (hn : Pl.check n = 0 ∧ 1 ≤ n.stops ∧ n.stops ≤ st ∧ (n.tracks.length : Int) ≤ tk ∧ n.shops.length ≤ 6) (hst : st ≤ 6) (htk : tk ≤ 8) (k12 : Kb g w1 w2)
    (hga : OwnInts w3 (w2.heap.size + 2) c_gA c_gc c.gauges) (hbr : OwnInts w3 (w2.heap.size + 2) c_bA c_bc c.brakes) (hhe : OwnInts w3 (w2.heap.size + 2) c_hA c_hc c.heats)
    (hc : 0 < c.gauges.length ∧ Pl.rising c.gauges 1 3 1 = 0 ∧ Pl.rising c.brakes 1 3 1 = 0 ∧ Pl.rising c.heats 1 3 1 = 0 ∧ 2 ≤ c.size ∧ c.size ≤ 5 ∧ 6 ≤ c.load ∧ c.load ≤ 12 ∧ c.gauges.length ≤ 3 ∧ c.brakes.length ≤ 3 ∧ c.heats.length ≤ 3)
    (k23 : Kb g w2 w3) (k34 : Below w3.heap.size w3 w4) (hP : w4.heap[P]? = some (.cells #[.int .i64 n.stops, .slice n_tA n.tracks.length n_tc, .slice n_sA n.shops.length n_sc] 27 (0, 0))) (hQ : w4.heap[Q]? = some (.cells #[.slice c_gA c.gauges.length c_gc, .int .i64 c.size, .int .i64 c.load, .slice c_bA c.brakes.length c_bc, .slice c_hA c.heats.length c_hc, .bool c.hooks] 30 (0, 0))) (hgP : w3.heap.size ≤ P) (hgQ : w3.heap.size ≤ Q) :
    Dealt g (w1.heap.size + 2) P Q w4 n n_tA n_sA n_tc n_sc c c_gA c_bA c_hA c_gc c_bc c_hc := by
  have s12 := k12.size
  have s23 := k23.size
  have k : Kb g w3 w4 := ⟨k23.bag.below k34 (by omega), k34.os, k34.tape, k34.output, k34.size, fun i hi _ => k34.block i hi⟩
  obtain ⟨n1, n2, n3, n4, n5⟩ := hn
  obtain ⟨c1, c2, c3, c4, c5, c6, c7, c8, c9, c10, c11⟩ := hc
  exact ⟨k.row (by omega) (k23.row (by omega) htr), k.row (by omega) (k23.row (by omega) hsh), own_weaken (k.row (by omega) hga) (by omega), own_weaken (k.row (by omega) hbr) (by omega), own_weaken (k.row (by omega) hhe) (by omega),
    hP, hQ, k.bag, by omega, by omega, by omega, n1, fits_dealt c1 c2 c3 c4 c5 c6 c7 c8, n2, by omega, by omega, n5, c1, c9, c10, c11⟩
end Go.Proofs.Ytpbjpochjagicaa
