/- Walks: walkOf of any net of up to twenty lines. -/
import Derived.Test.YtpbjpochjagicaaW40
namespace Go.Proofs.Ytpbjpochjagicaa
open Go.RowKit

set_option maxRecDepth 20000 in
set_option maxHeartbeats 4000000 in
theorem walkOf_ge (g : Nat) (n : Pl.Nt) (n_tA n_sA : Option Addr) (n_tc n_sc : Nat) (fr : Int) (w : World) (hb : BagAt w g) (ht : Trks w w.heap.size n_tA n.tracks) (hne : n.tracks ≠ [] → ∀ p, n_tA = some p → p.block ≠ g) (hl : n.tracks.length ≤ 20) :
    Calls Try.prog 31 #[.pointer (some ⟨g, 0, none⟩), .agg #[.int .i64 n.stops, .slice n_tA n.tracks.length n_tc, .slice n_sA n.shops.length n_sc], .int .i64 fr] w (WayDealt g n.tracks.length w) := by
  have hg := hb.lt
  have hK0 := Lib.hid (Kb.refl hb)
  have HT := Lib.hid ht
  have HN := Lib.hid hne
  clear ht hne
  go_enter Try.func31, Try.ntmps31
  go_wp2_with fail
  refine (up_any g _ _ (hb.alloc _) (by omega)).mono ?_
  rintro e w1 ⟨m, rfl, hm0, hm1, hB1⟩
  have k1 := Lib.hid ((hK0.out.alloc _).bagged hB1)
  have hbox := (hB1.block (k := w.heap.size) (by omega)).trans (heap_alloc_new w _)
  have Hbox := Lib.hid hbox
  have e1 : w1.heap.size = w.heap.size + 1 := by rw [hB1.size]; simp
  clear hbox hB1 hK0
  go_wp2_with fail
  go_loopw [2, 7, 8] (fun f v i wr => ∃ (fr : Int) (k : Int) (way : List Int) (A : Option Addr) (c : Nat), f = .int .i64 fr ∧ v = .slice A way.length c ∧ i = .int .i64 k ∧ 0 ≤ k ∧ OwnInts wr (w.heap.size + 1) A c way ∧ k + way.length ≤ 5 ∧ (∀ x ∈ way, 0 ≤ x ∧ x < (n.tracks.length : Int)) ∧ Kb g w wr ∧ Kb g w1 wr) (fun _ _ i _ => (intOf i).toNat)
  case atStart => exact ⟨fr, m, [], none, 0, rfl, rfl, rfl, hm0, OwnInts.nil _ _, by simp; omega, by simp, k1.out, Kb.refl k1.out.bag⟩
  case round =>
    obtain ⟨fr2, k, way, A, c, rfl, rfl, rfl, hk0, hown, hlen, hin, hK, hK1⟩ := hrel
    have hbx := (hK1.block (k := w.heap.size) (by omega) (by omega)).trans Hbox.out
    have q1 : wr.cell? ⟨w.heap.size, 1, none⟩ = some (.slice n_tA n.tracks.length n_tc) := blk_cell hbx 1
    have hW := hK.size
    have HK1 := Lib.hid hK1
    clear hK1 hbx
    by_cases hgo : 0 < k ∧ 0 < (n.tracks.length : Int)
    · obtain ⟨hkp, hnp⟩ := hgo
      obtain ⟨wo, rfl⟩ : ∃ wo : World, wo = wr := ⟨_, rfl⟩
      have hform : ∃ b off, n_tA = some ⟨b, off, none⟩ ∧ b < w.heap.size ∧ b ≠ g ∧ ∀ j (hj : j < n.tracks.length), w.cell? ⟨b, off + j * 9, none⟩ = some (.int .i64 n.tracks[j].a) ∧ w.cell? ⟨b, off + j * 9 + 1, none⟩ = some (.int .i64 n.tracks[j].b) := by
        rcases HT.out.cases with h | ⟨b, off, h1, h2, h3⟩
        · rw [h] at hnp; simp at hnp
        · refine ⟨b, off, h1, h2, HN.out (fun e => by rw [e] at hnp; simp at hnp) _ h1, fun j hj => ?_⟩
          have := trk_cells (h3 j _ (List.getElem?_eq_getElem hj))
          exact ⟨this.1, this.2.1⟩
      obtain ⟨b, off, hA, hbw, hbg, hcell⟩ := hform
      have Hcell := Lib.hid hcell
      subst hA
      have hnt : 0 < n.tracks.length := by omega
      clear hcell
      go_wp2_with fail
      refine (up_any g _ _ hK.bag (by omega)).mono ?_
      rintro e v0 ⟨x, rfl, hx0, hx1, hC⟩
      obtain ⟨k0, rfl⟩ : ∃ k0 : Nat, x = k0 := ⟨x.toNat, by omega⟩
      have hKC := (Kb.refl hK.bag).bagged hC
      go_wp2_with fail
      go_loopw [9, 10] (fun kv tv wr => ∃ kk tt : Nat, kk < n.tracks.length ∧ tt ≤ n.tracks.length ∧ kv = .int .i64 kk ∧ tv = .int .i64 tt ∧ Kb g wo wr) (fun _ t _ => n.tracks.length - (intOf t).toNat)
      case atStart => exact ⟨k0, 0, by omega, by omega, rfl, rfl, hKC⟩
      case round =>
        obtain ⟨kk, tt, hkk, htt, rfl, rfl, hKl⟩ := hrel
        clear hKC hC hx0 hx1
        have hwo : w.heap.size < wo.heap.size := by have := HK1.out.size; omega
        have hcl := Hcell.out kk hkk
        have ca := (HK1.out.cell (p := ⟨b, off + kk * 9, none⟩) (by simp; omega) (by simp; omega)).trans ((k1.out.cell (p := ⟨b, off + kk * 9, none⟩) (by simp; omega) (by simp; omega)).trans hcl.1)
        have cb := (HK1.out.cell (p := ⟨b, off + kk * 9 + 1, none⟩) (by simp; omega) (by simp; omega)).trans ((k1.out.cell (p := ⟨b, off + kk * 9 + 1, none⟩) (by simp; omega) (by simp; omega)).trans hcl.2)
        generalize n.tracks[kk].a = ta at ca hcl
        generalize n.tracks[kk].b = tb at cb hcl
        have hsl := hKl.size
        have d1 := (hKl.cell (p := ⟨w.heap.size, 1, none⟩) (by simp; omega) (by simp; omega)).trans q1
        have da := (hKl.cell (p := ⟨b, off + kk * 9, none⟩) (by simp; omega) (by simp; omega)).trans ca
        have db := (hKl.cell (p := ⟨b, off + kk * 9 + 1, none⟩) (by simp; omega) (by simp; omega)).trans cb
        have hki : (kk : Int) < (n.tracks.length : Int) := by omega
        have hwrap : IntKind.i64.wrap ((kk : Int) + 1) = (kk : Int) + 1 := IntWalk.i64_in _ ⟨by omega, by omega⟩
        have hnz' : ¬ (n.tracks.length : Int) = 0 := by omega
        by_cases hlt : (tt : Int) < (n.tracks.length : Int)
        · by_cases hfa : ta = fr2
          · subst hfa
            have hKR := Lib.hid (hK.trans hKl)
            have hrow := Lib.hid (hKl.row (by omega) hown)
            have hsR := hKl.size
            have cR1 : wr.cell? ⟨w.heap.size, 1, none⟩ = some (.slice (some ⟨b, off, none⟩) n.tracks.length n_tc) := (hKl.cell (p := ⟨w.heap.size, 1, none⟩) (by simp; omega) (by simp; omega)).trans q1
            have cRa : wr.cell? ⟨b, off + kk * 9, none⟩ = some (.int .i64 ta) := (hKl.cell (p := ⟨b, off + kk * 9, none⟩) (by simp; omega) (by simp; omega)).trans ca
            have cRb : wr.cell? ⟨b, off + kk * 9 + 1, none⟩ = some (.int .i64 tb) := (hKl.cell (p := ⟨b, off + kk * 9 + 1, none⟩) (by simp; omega) (by simp; omega)).trans cb
            have hlR : b < wr.heap.size := by omega
            have hlW : w.heap.size < wr.heap.size := by omega
            have hkpos : k - 1 + ((way.length : Int) + 1) ≤ 5 := by omega
            have hinR : ∀ x ∈ way ++ [(kk : Int)], 0 ≤ x ∧ x < (n.tracks.length : Int) := by
              intro x hx
              rw [List.mem_append] at hx
              rcases hx with hx | hx
              · exact hin x hx
              · simp at hx; omega
            have HinR := Lib.hid hinR
            have hl5 : way.length ≤ 5 := by omega
            have hr2 := hrow.out
            have hK1R := Lib.hid (HK1.out.trans hKl)
            have hcw := Lib.hid hcl
            clear hinR hin hK hKl q1 ca cb hcl d1 da db
            go_wp2_with (at_builtin; refine wpl_app_ints rfl (.tmp 66) (.tmp 68) 22 rfl (w.heap.size + 1) Try.underlying22 int_info A c way rfl (own_alloc hrow.out _) (wr.heap.size + 1) (some ⟨wr.heap.size, 0, none⟩) 1 [(kk : Int)] rfl (ints_one _ _ _ (by simp) (by omega)) (by simp; omega) (by simp; omega) ?_; intro A2 c2 w3 hown3 hg3 hat3; have hK3 := (hKR.out.alloc _).grow hg3 (fun j hj => by have := own_from hr2 j hj; omega) hg; have hK13 := (hK1R.out.alloc _).grow hg3 (fun j hj => by have := own_from hr2 j hj; omega) (by omega); have z1 := blk_cell ((hK13.block (k := w.heap.size) (by omega) (by omega)).trans Hbox.out) 1; have za := (hK3.cell (p := ⟨b, off + kk * 9, none⟩) hbw hbg).trans hcw.out.1; have zb := (hK3.cell (p := ⟨b, off + kk * 9 + 1, none⟩) hbw hbg).trans hcw.out.2; have hK3 := Lib.hid hK3; have hK13 := Lib.hid hK13; have hown3 := Lib.hid hown3; have hs3 := hK13.out.size; have zl : b < w3.heap.size := (by omega); clear hg3 hat3)
            go_roundw
            · exact ⟨_, k - 1, way ++ [(kk : Int)], A2, c2, rfl, by simp, by go_num, by omega, hown3.out, by simp; omega, HinR.out, hK3.out, hK13.out⟩
            · simp [intOf]; omega
          · have hfa' : (ta == fr2) = false := by rw [beq_eq_false_iff_ne]; exact hfa
            have hfa2 : (fr2 == ta) = false := by rw [beq_eq_false_iff_ne]; exact Ne.symm hfa
            by_cases hfb : tb = fr2
            · subst hfb
              have hKR := Lib.hid (hK.trans hKl)
              have hrow := Lib.hid (hKl.row (by omega) hown)
              have hsR := hKl.size
              have cR1 : wr.cell? ⟨w.heap.size, 1, none⟩ = some (.slice (some ⟨b, off, none⟩) n.tracks.length n_tc) := (hKl.cell (p := ⟨w.heap.size, 1, none⟩) (by simp; omega) (by simp; omega)).trans q1
              have cRa : wr.cell? ⟨b, off + kk * 9, none⟩ = some (.int .i64 ta) := (hKl.cell (p := ⟨b, off + kk * 9, none⟩) (by simp; omega) (by simp; omega)).trans ca
              have cRb : wr.cell? ⟨b, off + kk * 9 + 1, none⟩ = some (.int .i64 tb) := (hKl.cell (p := ⟨b, off + kk * 9 + 1, none⟩) (by simp; omega) (by simp; omega)).trans cb
              have hlR : b < wr.heap.size := by omega
              have hlW : w.heap.size < wr.heap.size := by omega
              have hkpos : k - 1 + ((way.length : Int) + 1) ≤ 5 := by omega
              have hinR : ∀ x ∈ way ++ [(kk : Int)], 0 ≤ x ∧ x < (n.tracks.length : Int) := by
                intro x hx
                rw [List.mem_append] at hx
                rcases hx with hx | hx
                · exact hin x hx
                · simp at hx; omega
              have HinR := Lib.hid hinR
              have hl5 : way.length ≤ 5 := by omega
              have hr2 := hrow.out
              have hK1R := Lib.hid (HK1.out.trans hKl)
              have hcw := Lib.hid hcl
              clear hinR hin hK hKl q1 ca cb hcl d1 da db
              go_wp2_with (at_builtin; refine wpl_app_ints rfl (.tmp 66) (.tmp 68) 22 rfl (w.heap.size + 1) Try.underlying22 int_info A c way rfl (own_alloc hrow.out _) (wr.heap.size + 1) (some ⟨wr.heap.size, 0, none⟩) 1 [(kk : Int)] rfl (ints_one _ _ _ (by simp) (by omega)) (by simp; omega) (by simp; omega) ?_; intro A2 c2 w3 hown3 hg3 hat3; have hK3 := (hKR.out.alloc _).grow hg3 (fun j hj => by have := own_from hr2 j hj; omega) hg; have hK13 := (hK1R.out.alloc _).grow hg3 (fun j hj => by have := own_from hr2 j hj; omega) (by omega); have z1 := blk_cell ((hK13.block (k := w.heap.size) (by omega) (by omega)).trans Hbox.out) 1; have za := (hK3.cell (p := ⟨b, off + kk * 9, none⟩) hbw hbg).trans hcw.out.1; have zb := (hK3.cell (p := ⟨b, off + kk * 9 + 1, none⟩) hbw hbg).trans hcw.out.2; have hK3 := Lib.hid hK3; have hK13 := Lib.hid hK13; have hown3 := Lib.hid hown3; have hs3 := hK13.out.size; have zl : b < w3.heap.size := (by omega); clear hg3 hat3)
              go_roundw
              · exact ⟨_, k - 1, way ++ [(kk : Int)], A2, c2, rfl, by simp, by go_num, by omega, hown3.out, by simp; omega, HinR.out, hK3.out, hK13.out⟩
              · simp [intOf]; omega
            · have hfb' : (tb == fr2) = false := by rw [beq_eq_false_iff_ne]; exact hfb
              have hfb2 : (fr2 == tb) = false := by rw [beq_eq_false_iff_ne]; exact Ne.symm hfb
              go_wp2_with fail
              refine (chance_any g _ _ _ hKl.bag (by omega) (by omega)).mono ?_
              rintro e v2 ⟨ch, rfl, hC2⟩
              have hK2 := hKl.bagged hC2
              cases ch
              · have hKl := hK2
                have hKR := Lib.hid (hK.trans hK2)
                have hrow := Lib.hid (hK2.row (by omega) hown)
                have hsR := hK2.size
                have cR1 : v2.cell? ⟨w.heap.size, 1, none⟩ = some (.slice (some ⟨b, off, none⟩) n.tracks.length n_tc) := (hK2.cell (p := ⟨w.heap.size, 1, none⟩) (by simp; omega) (by simp; omega)).trans q1
                have cRa : v2.cell? ⟨b, off + kk * 9, none⟩ = some (.int .i64 ta) := (hK2.cell (p := ⟨b, off + kk * 9, none⟩) (by simp; omega) (by simp; omega)).trans ca
                have cRb : v2.cell? ⟨b, off + kk * 9 + 1, none⟩ = some (.int .i64 tb) := (hK2.cell (p := ⟨b, off + kk * 9 + 1, none⟩) (by simp; omega) (by simp; omega)).trans cb
                have hlR : b < v2.heap.size := by omega
                have hlW : w.heap.size < v2.heap.size := by omega
                have hkpos : k - 1 + ((way.length : Int) + 1) ≤ 5 := by omega
                have hinR : ∀ x ∈ way ++ [(kk : Int)], 0 ≤ x ∧ x < (n.tracks.length : Int) := by
                  intro x hx
                  rw [List.mem_append] at hx
                  rcases hx with hx | hx
                  · exact hin x hx
                  · simp at hx; omega
                have HinR := Lib.hid hinR
                have hl5 : way.length ≤ 5 := by omega
                have hr2 := hrow.out
                have hK1R := Lib.hid (HK1.out.trans hK2)
                have hcw := Lib.hid hcl
                clear hinR hin hK hKl q1 ca cb hcl d1 da db
                go_wp2_with (at_builtin; refine wpl_app_ints rfl (.tmp 66) (.tmp 68) 22 rfl (w.heap.size + 1) Try.underlying22 int_info A c way rfl (own_alloc hrow.out _) (v2.heap.size + 1) (some ⟨v2.heap.size, 0, none⟩) 1 [(kk : Int)] rfl (ints_one _ _ _ (by simp) (by omega)) (by simp; omega) (by simp; omega) ?_; intro A2 c2 w3 hown3 hg3 hat3; have hK3 := (hKR.out.alloc _).grow hg3 (fun j hj => by have := own_from hr2 j hj; omega) hg; have hK13 := (hK1R.out.alloc _).grow hg3 (fun j hj => by have := own_from hr2 j hj; omega) (by omega); have z1 := blk_cell ((hK13.block (k := w.heap.size) (by omega) (by omega)).trans Hbox.out) 1; have za := (hK3.cell (p := ⟨b, off + kk * 9, none⟩) hbw hbg).trans hcw.out.1; have zb := (hK3.cell (p := ⟨b, off + kk * 9 + 1, none⟩) hbw hbg).trans hcw.out.2; have hK3 := Lib.hid hK3; have hK13 := Lib.hid hK13; have hown3 := Lib.hid hown3; have hs3 := hK13.out.size; have zl : b < w3.heap.size := (by omega); clear hg3 hat3)
                go_roundw
                · exact ⟨_, k - 1, way ++ [(kk : Int)], A2, c2, rfl, by simp, by go_num, by omega, hown3.out, by simp; omega, HinR.out, hK3.out, hK13.out⟩
                · simp [intOf]; omega
              · have d2 := (hC2.cell (p := ⟨w.heap.size, 1, none⟩) (by simp; omega)).trans d1
                go_wp2_with fail
                go_roundw
                · have hm0 : 0 ≤ ((kk : Int) + 1) % (n.tracks.length : Int) := Int.emod_nonneg _ hnz'
                  have hm1 : ((kk : Int) + 1) % (n.tracks.length : Int) < n.tracks.length := Int.emod_lt_of_pos _ (by omega)
                  exact ⟨(((kk : Int) + 1) % (n.tracks.length : Int)).toNat, tt + 1, by omega, by omega, by rw [Int.toNat_of_nonneg hm0], by go_num, hK2⟩
                · simp [intOf]; omega
        · obtain rfl : tt = n.tracks.length := by omega
          clear hlt
          by_cases hfa : ta = fr2
          · subst hfa
            have hKR := Lib.hid (hK.trans hKl)
            have hrow := Lib.hid (hKl.row (by omega) hown)
            have hsR := hKl.size
            have cR1 : wr.cell? ⟨w.heap.size, 1, none⟩ = some (.slice (some ⟨b, off, none⟩) n.tracks.length n_tc) := (hKl.cell (p := ⟨w.heap.size, 1, none⟩) (by simp; omega) (by simp; omega)).trans q1
            have cRa : wr.cell? ⟨b, off + kk * 9, none⟩ = some (.int .i64 ta) := (hKl.cell (p := ⟨b, off + kk * 9, none⟩) (by simp; omega) (by simp; omega)).trans ca
            have cRb : wr.cell? ⟨b, off + kk * 9 + 1, none⟩ = some (.int .i64 tb) := (hKl.cell (p := ⟨b, off + kk * 9 + 1, none⟩) (by simp; omega) (by simp; omega)).trans cb
            have hlR : b < wr.heap.size := by omega
            have hlW : w.heap.size < wr.heap.size := by omega
            have hkpos : k - 1 + ((way.length : Int) + 1) ≤ 5 := by omega
            have hinR : ∀ x ∈ way ++ [(kk : Int)], 0 ≤ x ∧ x < (n.tracks.length : Int) := by
              intro x hx
              rw [List.mem_append] at hx
              rcases hx with hx | hx
              · exact hin x hx
              · simp at hx; omega
            have HinR := Lib.hid hinR
            have hl5 : way.length ≤ 5 := by omega
            have hr2 := hrow.out
            have hK1R := Lib.hid (HK1.out.trans hKl)
            have hcw := Lib.hid hcl
            clear hinR hin hK hKl q1 ca cb hcl d1 da db
            go_wp2_with (at_builtin; refine wpl_app_ints rfl (.tmp 66) (.tmp 68) 22 rfl (w.heap.size + 1) Try.underlying22 int_info A c way rfl (own_alloc hrow.out _) (wr.heap.size + 1) (some ⟨wr.heap.size, 0, none⟩) 1 [(kk : Int)] rfl (ints_one _ _ _ (by simp) (by omega)) (by simp; omega) (by simp; omega) ?_; intro A2 c2 w3 hown3 hg3 hat3; have hK3 := (hKR.out.alloc _).grow hg3 (fun j hj => by have := own_from hr2 j hj; omega) hg; have hK13 := (hK1R.out.alloc _).grow hg3 (fun j hj => by have := own_from hr2 j hj; omega) (by omega); have z1 := blk_cell ((hK13.block (k := w.heap.size) (by omega) (by omega)).trans Hbox.out) 1; have za := (hK3.cell (p := ⟨b, off + kk * 9, none⟩) hbw hbg).trans hcw.out.1; have zb := (hK3.cell (p := ⟨b, off + kk * 9 + 1, none⟩) hbw hbg).trans hcw.out.2; have hK3 := Lib.hid hK3; have hK13 := Lib.hid hK13; have hown3 := Lib.hid hown3; have hs3 := hK13.out.size; have zl : b < w3.heap.size := (by omega); clear hg3 hat3)
            go_roundw
            · exact ⟨_, k - 1, way ++ [(kk : Int)], A2, c2, rfl, by simp, by go_num, by omega, hown3.out, by simp; omega, HinR.out, hK3.out, hK13.out⟩
            · simp [intOf]; omega
          · have hfa' : (ta == fr2) = false := by rw [beq_eq_false_iff_ne]; exact hfa
            have hfa2 : (fr2 == ta) = false := by rw [beq_eq_false_iff_ne]; exact Ne.symm hfa
            by_cases hfb : tb = fr2
            · subst hfb
              have hKR := Lib.hid (hK.trans hKl)
              have hrow := Lib.hid (hKl.row (by omega) hown)
              have hsR := hKl.size
              have cR1 : wr.cell? ⟨w.heap.size, 1, none⟩ = some (.slice (some ⟨b, off, none⟩) n.tracks.length n_tc) := (hKl.cell (p := ⟨w.heap.size, 1, none⟩) (by simp; omega) (by simp; omega)).trans q1
              have cRa : wr.cell? ⟨b, off + kk * 9, none⟩ = some (.int .i64 ta) := (hKl.cell (p := ⟨b, off + kk * 9, none⟩) (by simp; omega) (by simp; omega)).trans ca
              have cRb : wr.cell? ⟨b, off + kk * 9 + 1, none⟩ = some (.int .i64 tb) := (hKl.cell (p := ⟨b, off + kk * 9 + 1, none⟩) (by simp; omega) (by simp; omega)).trans cb
              have hlR : b < wr.heap.size := by omega
              have hlW : w.heap.size < wr.heap.size := by omega
              have hkpos : k - 1 + ((way.length : Int) + 1) ≤ 5 := by omega
              have hinR : ∀ x ∈ way ++ [(kk : Int)], 0 ≤ x ∧ x < (n.tracks.length : Int) := by
                intro x hx
                rw [List.mem_append] at hx
                rcases hx with hx | hx
                · exact hin x hx
                · simp at hx; omega
              have HinR := Lib.hid hinR
              have hl5 : way.length ≤ 5 := by omega
              have hr2 := hrow.out
              have hK1R := Lib.hid (HK1.out.trans hKl)
              have hcw := Lib.hid hcl
              clear hinR hin hK hKl q1 ca cb hcl d1 da db
              go_wp2_with (at_builtin; refine wpl_app_ints rfl (.tmp 66) (.tmp 68) 22 rfl (w.heap.size + 1) Try.underlying22 int_info A c way rfl (own_alloc hrow.out _) (wr.heap.size + 1) (some ⟨wr.heap.size, 0, none⟩) 1 [(kk : Int)] rfl (ints_one _ _ _ (by simp) (by omega)) (by simp; omega) (by simp; omega) ?_; intro A2 c2 w3 hown3 hg3 hat3; have hK3 := (hKR.out.alloc _).grow hg3 (fun j hj => by have := own_from hr2 j hj; omega) hg; have hK13 := (hK1R.out.alloc _).grow hg3 (fun j hj => by have := own_from hr2 j hj; omega) (by omega); have z1 := blk_cell ((hK13.block (k := w.heap.size) (by omega) (by omega)).trans Hbox.out) 1; have za := (hK3.cell (p := ⟨b, off + kk * 9, none⟩) hbw hbg).trans hcw.out.1; have zb := (hK3.cell (p := ⟨b, off + kk * 9 + 1, none⟩) hbw hbg).trans hcw.out.2; have hK3 := Lib.hid hK3; have hK13 := Lib.hid hK13; have hown3 := Lib.hid hown3; have hs3 := hK13.out.size; have zl : b < w3.heap.size := (by omega); clear hg3 hat3)
              go_roundw
              · exact ⟨_, k - 1, way ++ [(kk : Int)], A2, c2, rfl, by simp, by go_num, by omega, hown3.out, by simp; omega, HinR.out, hK3.out, hK13.out⟩
              · simp [intOf]; omega
            · have hfb' : (tb == fr2) = false := by rw [beq_eq_false_iff_ne]; exact hfb
              have hfb2 : (fr2 == tb) = false := by rw [beq_eq_false_iff_ne]; exact Ne.symm hfb
              have hKR := Lib.hid (hK.trans hKl)
              have hrow := Lib.hid (hKl.row (by omega) hown)
              have hsR := hKl.size
              have cR1 : wr.cell? ⟨w.heap.size, 1, none⟩ = some (.slice (some ⟨b, off, none⟩) n.tracks.length n_tc) := (hKl.cell (p := ⟨w.heap.size, 1, none⟩) (by simp; omega) (by simp; omega)).trans q1
              have cRa : wr.cell? ⟨b, off + kk * 9, none⟩ = some (.int .i64 ta) := (hKl.cell (p := ⟨b, off + kk * 9, none⟩) (by simp; omega) (by simp; omega)).trans ca
              have cRb : wr.cell? ⟨b, off + kk * 9 + 1, none⟩ = some (.int .i64 tb) := (hKl.cell (p := ⟨b, off + kk * 9 + 1, none⟩) (by simp; omega) (by simp; omega)).trans cb
              have hlR : b < wr.heap.size := by omega
              have hlW : w.heap.size < wr.heap.size := by omega
              have hkpos : k - 1 + ((way.length : Int) + 1) ≤ 5 := by omega
              have hinR : ∀ x ∈ way ++ [(kk : Int)], 0 ≤ x ∧ x < (n.tracks.length : Int) := by
                intro x hx
                rw [List.mem_append] at hx
                rcases hx with hx | hx
                · exact hin x hx
                · simp at hx; omega
              have HinR := Lib.hid hinR
              have hl5 : way.length ≤ 5 := by omega
              have hr2 := hrow.out
              have hK1R := Lib.hid (HK1.out.trans hKl)
              have hcw := Lib.hid hcl
              clear hinR hin hK hKl q1 ca cb hcl d1 da db
              go_wp2_with (at_builtin; refine wpl_app_ints rfl (.tmp 66) (.tmp 68) 22 rfl (w.heap.size + 1) Try.underlying22 int_info A c way rfl (own_alloc hrow.out _) (wr.heap.size + 1) (some ⟨wr.heap.size, 0, none⟩) 1 [(kk : Int)] rfl (ints_one _ _ _ (by simp) (by omega)) (by simp; omega) (by simp; omega) ?_; intro A2 c2 w3 hown3 hg3 hat3; have hK3 := (hKR.out.alloc _).grow hg3 (fun j hj => by have := own_from hr2 j hj; omega) hg; have hK13 := (hK1R.out.alloc _).grow hg3 (fun j hj => by have := own_from hr2 j hj; omega) (by omega); have z1 := blk_cell ((hK13.block (k := w.heap.size) (by omega) (by omega)).trans Hbox.out) 1; have za := (hK3.cell (p := ⟨b, off + kk * 9, none⟩) hbw hbg).trans hcw.out.1; have zb := (hK3.cell (p := ⟨b, off + kk * 9 + 1, none⟩) hbw hbg).trans hcw.out.2; have hK3 := Lib.hid hK3; have hK13 := Lib.hid hK13; have hown3 := Lib.hid hown3; have hs3 := hK13.out.size; have zl : b < w3.heap.size := (by omega); clear hg3 hat3)
              go_roundw
              · exact ⟨_, k - 1, way ++ [(kk : Int)], A2, c2, rfl, by simp, by go_num, by omega, hown3.out, by simp; omega, HinR.out, hK3.out, hK13.out⟩
              · simp [intOf]; omega
    · have hcase : k ≤ 0 ∨ (0 < k ∧ (n.tracks.length : Int) ≤ 0) := by omega
      clear hgo
      rcases hcase with hk | ⟨hk, hk2⟩
      all_goals
        go_wp2_with fail
        go_ret
        exact ⟨A, c, way, rfl, hown, hin, by omega, hK⟩
end Go.Proofs.Ytpbjpochjagicaa
