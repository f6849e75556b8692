/- What LineReached asks: ways and stations; a net in which bogies can be changed everywhere. -/
import Derived.Test.YtpbjpochjagicaaW49
import Derived.Test.YtpbjpochjagicaaW60
import Derived.Test.YtpbjpochjagicaaW45
import Derived.Test.YtpbjpochjagicaaLh
namespace Go.Proofs.Ytpbjpochjagicaa
open Go.RowKit

theorem way_iff {n : Pl.Nt} {c : Pl.Cch} {fr g ds : Int} (h : Pl.asked n c fr g ds = 0) : (∃ t, Pl.way n c fr g ds = some t) ↔ Pl.comes n c [] (fr, g) ds = true := by
  rw [Pl.comes_gets places (asked_in h) places_length]
  exact Pl.way_comes places (asked_in h) places_length (km_pos (asked_good h).1)
theorem nums_up : ∀ m : Nat, Upw 0 m (Pl.nums m)
  | 0 => Upw.nil (Int.le_refl _)
  | m + 1 => by
    have h := Upw.snoc (nums_up m) (by omega)
    have e : Pl.nums (m + 1) = Pl.nums m ++ [(m : Int)] := by simp [Pl.nums, List.range_succ]
    rw [e]
    exact h
/-- a net in which bogies can be changed at all stations. -/
def wide (n : Pl.Nt) : Pl.Nt := { n with shops := Pl.nums n.stops.toNat }
theorem mem_nums {m : Nat} {x : Int} : x ∈ Pl.nums m ↔ 0 ≤ x ∧ x < m := by
  simp only [Pl.nums, List.mem_map, List.mem_range]
  constructor
  · rintro ⟨k, hk, rfl⟩; omega
  · rintro ⟨h1, h2⟩; exact ⟨x.toNat, by omega, by omega⟩
theorem check_wide {n : Pl.Nt} (h : Pl.check n = 0) : Pl.check (wide n) = 0 := by
  have hs := check_stops h
  have hu : Pl.rising (Pl.nums n.stops.toNat) 0 (n.stops - 1) 3 = 0 := (nums_up n.stops.toNat).rising_below 3 (by omega)
  unfold Pl.check at h
  show (if Pl.out n.stops 1 6 = true then (1 : Int) else if 8 < n.tracks.length then 6 else if Pl.tracksErr n.stops n.tracks = 0 then Pl.rising (Pl.nums n.stops.toNat) 0 (n.stops - 1) 3 else Pl.tracksErr n.stops n.tracks) = 0
  by_cases h1 : Pl.out n.stops 1 6 = true
  · rw [if_pos h1] at h; cases h
  · rw [if_neg h1] at h ⊢
    by_cases h2 : 8 < n.tracks.length
    · rw [if_pos h2] at h; cases h
    · rw [if_neg h2] at h ⊢
      by_cases h3 : Pl.tracksErr n.stops n.tracks = 0
      · rw [if_pos h3]; exact hu
      · rw [if_neg h3] at h; exact absurd h h3
theorem question_wide {n : Pl.Nt} {c : Pl.Cch} {fr g : Int} (h : Pl.question n c fr g = 0) : Pl.question (wide n) c fr g = 0 := by
  obtain ⟨hb, ho, hg⟩ := question_b h
  obtain ⟨hc, hf⟩ := both_check hb
  have hw := check_wide hc
  have ho' : Pl.out fr 0 ((wide n).stops - 1) = false := ho
  simp only [Pl.question, Pl.both, hw, hf, ho']
  simpa using hg
theorem asked_of {n : Pl.Nt} {c : Pl.Cch} {fr g ds : Int} (h : Pl.question n c fr g = 0) (h0 : 0 ≤ ds) (h1 : ds ≤ n.stops - 1) : Pl.asked n c fr g ds = 0 := by
  have ho : Pl.out ds 0 (n.stops - 1) = false := by simp [Pl.out]; omega
  rw [Pl.asked, h, ho]
  simp
/-- Both ends of an open line are reached, or none. -/
theorem ends_wide {n : Pl.Nt} {c : Pl.Cch} {fr g : Int} (h : Pl.question n c fr g = 0) {i : Nat} (hi : i < n.tracks.length) (ho : Pl.barred c (n.tracks.getD i default) = []) :
    (Pl.comes (wide n) c [] (fr, g) (n.tracks.getD i default).a = true) ↔ Pl.comes (wide n) c [] (fr, g) (n.tracks.getD i default).b = true := by
  have hq := question_wide h
  obtain ⟨hb, hf0, hg⟩ := question_b hq
  obtain ⟨hc, hft⟩ := both_check hb
  have hr := out_false hf0
  have hgr := (fits_lists hft).1 g hg
  have hU := gets_in (c := c) (reb := []) (p := (fr, g)) hc hr.1 hr.2 (by show 0 ≤ g; omega) (by show g ≤ 3; omega)
  have hcn := (both_check (question_b h).1).1
  have hs := check_stops hcn
  have ht := trk_in hcn hi
  have ha : (n.tracks.getD i default).a ∈ (wide n).shops := mem_nums.2 (by have := ht.a0; have := ht.a1; omega)
  have hb' : (n.tracks.getD i default).b ∈ (wide n).shops := mem_nums.2 (by have := ht.b0; have := ht.b1; omega)
  rw [Pl.comes_gets places hU places_length, Pl.comes_gets places hU places_length]
  exact Pl.both_ends (n := wide n) (c := c) (p := (fr, g)) (i := i) hi ho ht.ab ha hb'
theorem comes_range {n : Pl.Nt} {c : Pl.Cch} {fr g : Int} (h : Pl.question n c fr g = 0) {x : Int} (hx : Pl.comes n c [] (fr, g) x = true) : 0 ≤ x ∧ x ≤ n.stops - 1 := by
  obtain ⟨hb, hf0, hg⟩ := question_b h
  obtain ⟨hc, hft⟩ := both_check hb
  have hr := out_false hf0
  have hgr := (fits_lists hft).1 g hg
  have hU := gets_in (c := c) (reb := []) (p := (fr, g)) hc hr.1 hr.2 (by show 0 ≤ g; omega) (by show g ≤ 3; omega)
  obtain ⟨y, hy, he⟩ := (Pl.comes_gets places hU places_length).1 hx
  obtain ⟨l, hl, hle⟩ := Pl.gets_run hy
  have : ∀ (l : List Nat) (p : Pl.Place), 0 ≤ p.1 → p.1 ≤ n.stops - 1 → Pl.RunOk n.tracks.length (Pl.run n c []) p l → 0 ≤ (Pl.endOf (Pl.run n c []) p l).1 ∧ (Pl.endOf (Pl.run n c []) p l).1 ≤ n.stops - 1 := by
    intro l
    induction l with
    | nil => intro p h0 h1 _; exact ⟨h0, h1⟩
    | cons i l ih =>
      intro p h0 h1 hr
      obtain ⟨hi, hz, hr⟩ := hr
      have ht := trk_in hc hi
      obtain ⟨_, _, _, f4, _⟩ := Pl.run_fine hz
      refine ih _ ?_ ?_ hr
      · rw [f4]
        have := ht.a0; have := ht.b0
        dsimp only
        split <;> omega
      · rw [f4]
        have := ht.a1; have := ht.b1
        dsimp only
        split <;> omega
  have h2 := this l (fr, g) hr.1 hr.2 hl
  rw [hle, he] at h2
  exact h2
end Go.Proofs.Ytpbjpochjagicaa
