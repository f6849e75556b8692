/- Where a car comes with a load, and with a size. -/
import Derived.Test.YtpbjpochjagicaaW47
import Derived.Test.YtpbjpochjagicaaW46
import Derived.Test.YtpbjpochjagicaaLh
namespace Go.Proofs.Ytpbjpochjagicaa
open Go.RowKit

/-- Where the car comes with a load, just up to the greatest. -/
theorem heavy_iff {n : Pl.Nt} {c : Pl.Cch} {fr g ds : Int} (h : Pl.asked n c fr g ds = 0) {x : Int} (h1 : 1 ≤ x) (h2 : x ≤ 20) : Pl.comes n { c with load := x } [] (fr, g) ds = decide (x ≤ heaviest n c fr g ds) := by
  have hg := (Pl.greatest_iff (fun x => Pl.comes n { c with load := x } [] (fr, g) ds) (fun y _ hy => by
    rw [Pl.comes_gets places (asked_in h) places_length] at hy ⊢
    obtain ⟨z, hz, he⟩ := hy
    exact ⟨z, Pl.gets_less (fun t => Pl.barred_less (c := { c with load := y + 1 }) (d := { c with load := y }) rfl rfl rfl rfl (Int.le_refl _) (by show y ≤ y + 1; omega)) hz, he⟩) 20).2.2 x h1 h2
  have : decide (x ≤ heaviest n c fr g ds) = Pl.comes n { c with load := x } [] (fr, g) ds := by
    cases hc : Pl.comes n { c with load := x } [] (fr, g) ds
    · have h3 : ¬ x ≤ heaviest n c fr g ds := fun hx => by have := hg.2 hx; simp only [hc] at this; cases this
      simpa using h3
    · have := hg.1 hc
      exact decide_eq_true this
  exact this.symm
theorem large_iff {n : Pl.Nt} {c : Pl.Cch} {fr g ds : Int} (h : Pl.asked n c fr g ds = 0) {x : Int} (h1 : 1 ≤ x) (h2 : x ≤ 9) : Pl.comes n { c with size := x } [] (fr, g) ds = decide (x ≤ Pl.largest n c fr g ds) := by
  have hg := (Pl.greatest_iff (fun x => Pl.comes n { c with size := x } [] (fr, g) ds) (fun y _ hy => by
    rw [Pl.comes_gets places (asked_in h) places_length] at hy ⊢
    obtain ⟨z, hz, he⟩ := hy
    exact ⟨z, Pl.gets_less (fun t => Pl.barred_less (c := { c with size := y + 1 }) (d := { c with size := y }) rfl rfl rfl rfl (by show y ≤ y + 1; omega) (Int.le_refl _)) hz, he⟩) 9).2.2 x h1 h2
  have : decide (x ≤ Pl.largest n c fr g ds) = Pl.comes n { c with size := x } [] (fr, g) ds := by
    cases hc : Pl.comes n { c with size := x } [] (fr, g) ds
    · have h3 : ¬ x ≤ Pl.largest n c fr g ds := fun hx => by have := hg.2 hx; simp only [hc] at this; cases this
      simpa using h3
    · have := hg.1 hc
      exact decide_eq_true this
  exact this.symm

theorem greatest_in (p : Int → Bool) : ∀ m : Nat, 0 ≤ Pl.greatest p m ∧ Pl.greatest p m ≤ m
  | 0 => ⟨Int.le_refl _, Int.le_refl _⟩
  | m + 1 => by
    have ih := greatest_in p m
    show 0 ≤ (if p ((m : Int) + 1) then (m : Int) + 1 else Pl.greatest p m) ∧ (if p ((m : Int) + 1) then (m : Int) + 1 else Pl.greatest p m) ≤ _
    split <;> omega
theorem question_load {n : Pl.Nt} {c : Pl.Cch} {fr g : Int} (h : Pl.question n c fr g = 0) {x : Int} (h1 : 1 ≤ x) (h2 : x ≤ 20) : Pl.question n { c with load := x } fr g = 0 := by
  obtain ⟨hb, ho, hg⟩ := question_b h
  obtain ⟨hc, hf⟩ := both_check hb
  have hf2 : Pl.fits { c with load := x } = 0 := by
    have o : Pl.out x 1 20 = false := by simp [Pl.out]; omega
    unfold Pl.fits at hf ⊢
    simp only at hf ⊢
    rw [o]
    split
    · rename_i h1; rw [if_pos h1] at hf; cases hf
    · rename_i h1
      rw [if_neg h1] at hf
      split
      · rename_i h2; rw [if_pos h2] at hf; exact hf
      · rename_i h2
        rw [if_neg h2] at hf
        cases hs : Pl.out c.size 1 9
        · rw [hs] at hf
          cases hl : Pl.out c.load 1 20
          · rw [hl] at hf; exact hf
          · rw [hl] at hf; simp at hf
        · rw [hs] at hf; simp at hf
  simp only [Pl.question, Pl.both, hc, hf2, ho]
  simpa using hg
theorem question_size {n : Pl.Nt} {c : Pl.Cch} {fr g : Int} (h : Pl.question n c fr g = 0) {x : Int} (h1 : 1 ≤ x) (h2 : x ≤ 9) : Pl.question n { c with size := x } fr g = 0 := by
  obtain ⟨hb, ho, hg⟩ := question_b h
  obtain ⟨hc, hf⟩ := both_check hb
  have hf2 : Pl.fits { c with size := x } = 0 := by
    have o : Pl.out x 1 9 = false := by simp [Pl.out]; omega
    unfold Pl.fits at hf ⊢
    simp only at hf ⊢
    rw [o]
    split
    · rename_i h1; rw [if_pos h1] at hf; cases hf
    · rename_i h1
      rw [if_neg h1] at hf
      split
      · rename_i h2; rw [if_pos h2] at hf; exact hf
      · rename_i h2
        rw [if_neg h2] at hf
        cases hs : Pl.out c.size 1 9
        · rw [hs] at hf
          cases hl : Pl.out c.load 1 20
          · rw [hl] at hf; exact hf
          · rw [hl] at hf; simp at hf
        · rw [hs] at hf; simp at hf
  simp only [Pl.question, Pl.both, hc, hf2, ho]
  simpa using hg
end Go.Proofs.Ytpbjpochjagicaa
