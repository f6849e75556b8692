/- Plain laws: a car that is lighter or smaller comes no less far; the greatest number that will do. -/
import Derived.Test.YtpbjpochjagicaaGreatPl
namespace Go.Proofs.YtpbjpochjagicaaGreat.Pl

/-- What bars a car that is lighter and smaller, and is else the same. -/
theorem barred_less {c d : Cch} {t : Trk} (hg : d.gauges = c.gauges) (hb : d.brakes = c.brakes) (hh : d.heats = c.heats) (hk : d.hooks = c.hooks) (hs : d.size ≤ c.size) (hl : d.load ≤ c.load) (h : barred c t = []) : barred d t = [] := by
  unfold barred at h ⊢
  simp only [List.append_eq_nil_iff] at h ⊢
  obtain ⟨⟨⟨⟨⟨h1, h2⟩, h3⟩, h4⟩, h5⟩, h6⟩ := h
  rw [hg, hb, hh, hk]
  refine ⟨⟨⟨⟨⟨h1, ?_⟩, ?_⟩, h4⟩, h5⟩, h6⟩
  · split at h2
    · cases h2
    · rw [if_neg (by omega)]
  · split at h3
    · cases h3
    · rw [if_neg (by omega)]
theorem barred_bar {c : Cch} {t : Trk} {b : Int} {l : List Int} (h : barred c t = b :: l) : b ≠ 0 := by
  have hm : b ∈ barred c t := by rw [h]; simp
  unfold barred at hm
  simp only [List.mem_append] at hm
  rcases hm with ((((hm | hm) | hm) | hm) | hm) | hm <;> (split at hm <;> simp at hm <;> omega)
theorem runTo_less {shops : List Int} {c d : Cch} {reb : Bool} {p : Place} {t : Trk} {s : Int} (hl : barred c t = [] → barred d t = []) (h : (runTo shops c reb p t s).2.2 = 0) : runTo shops d reb p t s = runTo shops c reb p t s := by
  unfold runTo at h ⊢
  cases reb
  · simp only [Bool.false_eq_true, if_false] at h ⊢
    cases hb : barred c t with
    | nil => rw [hl hb]
    | cons b l =>
      rw [hb] at h
      exact absurd h (barred_bar hb)
  · rfl
theorem run_less {n : Nt} {c d : Cch} {reb : List Int} {p : Place} {k : Nat} (hl : ∀ t, barred c t = [] → barred d t = []) (h : (run n c reb p k).2.2 = 0) : run n d reb p k = run n c reb p k := by
  unfold run runT at h ⊢
  split
  · rename_i h1; rw [if_pos h1] at h; exact runTo_less (hl _) h
  · rename_i h1
    rw [if_neg h1] at h
    split
    · rename_i h2; rw [if_pos h2] at h; exact runTo_less (hl _) h
    · rfl
theorem gets_less {n : Nt} {c d : Cch} {reb : List Int} {p x : Place} (hl : ∀ t, barred c t = [] → barred d t = []) (h : Gets (run n c reb) n.tracks.length p x) : Gets (run n d reb) n.tracks.length p x := by
  induction h with
  | refl => exact .refl
  | step _ hi hz ih =>
    rw [← run_less hl hz]
    exact .step ih hi (by rw [run_less hl hz]; exact hz)

theorem comes_gets {n : Nt} {c : Cch} {reb : List Int} {p : Place} {to : Int} (U : List Place) (hU : ∀ x, Gets (run n c reb) n.tracks.length p x → x ∈ U) (hl : U.length ≤ 24) :
    comes n c reb p to = true ↔ ∃ x, Gets (run n c reb) n.tracks.length p x ∧ x.1 = to := by
  have h := bfs_all (run n c reb) n.tracks.length p U hU 100 (by omega)
  unfold comes reached
  rw [List.any_eq_true]
  constructor
  · rintro ⟨x, hx, he⟩
    exact ⟨x, (h.2 x).1 hx, by simpa using he⟩
  · rintro ⟨x, hx, he⟩
    exact ⟨x, (h.2 x).2 hx, by simpa using he⟩

/-- 'greatest': where all below what will do will do, just the numbers up to it will do. -/
theorem greatest_iff (p : Int → Bool) (hp : ∀ x : Int, 1 ≤ x → p (x + 1) = true → p x = true) : ∀ m : Nat, 0 ≤ greatest p m ∧ greatest p m ≤ m ∧ ∀ x : Int, 1 ≤ x → x ≤ m → (p x = true ↔ x ≤ greatest p m)
  | 0 => ⟨by simp [greatest], by simp [greatest], fun x h1 h2 => by omega⟩
  | m + 1 => by
    have ih := greatest_iff p hp m
    have hst : greatest p (m + 1) = if p ((m : Int) + 1) then (m : Int) + 1 else greatest p m := rfl
    rw [hst]
    cases hpm : p ((m : Int) + 1)
    · simp only [Bool.false_eq_true, if_false]
      refine ⟨ih.1, by omega, fun x h1 h2 => ?_⟩
      by_cases hx : x ≤ m
      · exact ih.2.2 x h1 hx
      · obtain rfl : x = (m : Int) + 1 := by omega
        rw [hpm]
        constructor
        · intro h; cases h
        · intro h; omega
    · simp only [if_true]
      refine ⟨by omega, by omega, fun x h1 h2 => ⟨fun _ => by omega, fun _ => ?_⟩⟩
      have down : ∀ j : Nat, ∀ y : Int, 1 ≤ y → y + j = (m : Int) + 1 → p y = true := by
        intro j
        induction j with
        | zero => intro y _ hy; rw [show y = (m : Int) + 1 by omega]; exact hpm
        | succ j ihj => intro y hy1 hy2; exact hp y hy1 (ihj (y + 1) (by omega) (by omega))
      exact down ((m : Int) + 1 - x).toNat x h1 (by omega)
end Go.Proofs.YtpbjpochjagicaaGreat.Pl
