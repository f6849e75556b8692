/- Plain laws: lines without which a car would not come. -/
import Derived.Test.YtpbjpochjagicaaGreatDoorRRWy
namespace Go.Proofs.YtpbjpochjagicaaGreatDoorRR.Pl

/-- a net without a line. -/
def without (n : Nt) (i : Nat) : Nt := { n with tracks := n.tracks.eraseIdx i }
def mustTo (n : Nt) (c : Cch) (fr g to : Int) (k : Nat) : List Int := ((List.range k).filter fun i => !comes (without n i) c [] (fr, g) to).map fun i : Nat => (i : Int)
/-- all lines without which a car would not come. -/
def must (n : Nt) (c : Cch) (fr g to : Int) : List Int := mustTo n c fr g to n.tracks.length
theorem mustTo_in {n : Nt} {c : Cch} {fr g to : Int} {k : Nat} (h : comes (without n k) c [] (fr, g) to = false) : mustTo n c fr g to (k + 1) = mustTo n c fr g to k ++ [(k : Int)] := by
  simp [mustTo, List.range_succ, h]
theorem mustTo_out {n : Nt} {c : Cch} {fr g to : Int} {k : Nat} (h : comes (without n k) c [] (fr, g) to = true) : mustTo n c fr g to (k + 1) = mustTo n c fr g to k := by
  simp [mustTo, List.range_succ, h]
theorem mustTo_length (n : Nt) (c : Cch) (fr g to : Int) (k : Nat) : (mustTo n c fr g to k).length ≤ k := by
  have := List.length_filter_le (fun i => !comes (without n i) c [] (fr, g) to) (List.range k)
  simpa [mustTo] using this
theorem mem_mustTo {n : Nt} {c : Cch} {fr g to : Int} {k i : Nat} : (i : Int) ∈ mustTo n c fr g to k ↔ i < k ∧ comes (without n i) c [] (fr, g) to = false := by
  simp only [mustTo, List.mem_map, List.mem_filter, List.mem_range, Bool.not_eq_true']
  constructor
  · rintro ⟨j, hj, he⟩
    have : j = i := by omega
    subst this
    exact hj
  · intro h
    exact ⟨i, h, rfl⟩
theorem mustTo_up (n : Nt) (c : Cch) (fr g to : Int) (k : Nat) : (mustTo n c fr g to k).Pairwise (· < ·) := by
  unfold mustTo
  rw [List.pairwise_map]
  refine List.Pairwise.imp (fun h => ?_) (List.Pairwise.filter _ List.pairwise_lt_range)
  omega
theorem mustTo_lt {n : Nt} {c : Cch} {fr g to : Int} {k : Nat} : ∀ x ∈ mustTo n c fr g to k, x < k := by
  intro x hx
  simp only [mustTo, List.mem_map, List.mem_filter, List.mem_range] at hx
  obtain ⟨j, ⟨hj, _⟩, rfl⟩ := hx
  omega
theorem tracksErr_all {s : Int} : ∀ {l : List Trk}, (∀ t ∈ l, trackErr s t = 0) → tracksErr s l = 0
  | [], _ => rfl
  | t :: l, h => by
    rw [tracksErr, if_pos (h t (by simp))]
    exact tracksErr_all fun u hu => h u (by simp [hu])
theorem tracksErr_each {s : Int} : ∀ {l : List Trk}, tracksErr s l = 0 → ∀ t ∈ l, trackErr s t = 0
  | u :: l, h, t, ht => by
    rw [tracksErr] at h
    by_cases hu : trackErr s u = 0
    · rw [if_pos hu] at h
      rcases List.mem_cons.1 ht with rfl | ht
      · exact hu
      · exact tracksErr_each h t ht
    · rw [if_neg hu] at h; exact absurd h hu
theorem check_without {n : Nt} (h : check n = 0) (i : Nat) : check (without n i) = 0 := by
  unfold check at h ⊢
  by_cases h1 : out n.stops 1 6 = true
  · rw [if_pos h1] at h; cases h
  · rw [if_neg h1] at h
    by_cases h2 : 8 < n.tracks.length
    · rw [if_pos h2] at h; cases h
    · rw [if_neg h2] at h
      have hl : (n.tracks.eraseIdx i).length ≤ n.tracks.length := by
        rw [List.length_eraseIdx]
        split <;> omega
      by_cases h3 : tracksErr n.stops n.tracks = 0
      · rw [if_pos h3] at h
        have h4 : tracksErr n.stops (n.tracks.eraseIdx i) = 0 := tracksErr_all fun t ht => tracksErr_each h3 t (List.mem_of_mem_eraseIdx ht)
        show (if out n.stops 1 6 = true then (1 : Int) else if 8 < (n.tracks.eraseIdx i).length then 6 else if tracksErr n.stops (n.tracks.eraseIdx i) = 0 then rising n.shops 0 (n.stops - 1) 3 else tracksErr n.stops (n.tracks.eraseIdx i)) = 0
        rw [if_neg h1, if_neg (by omega), if_pos h4]
        exact h
      · rw [if_neg h3] at h; exact absurd h h3
theorem question_without {n : Nt} {c : Cch} {fr g : Int} (hc : check n = 0) (h : question n c fr g = 0) (i : Nat) : question (without n i) c fr g = 0 := by
  have hw := check_without hc i
  unfold question both at h ⊢
  rw [hc] at h
  rw [hw]
  exact h
end Go.Proofs.YtpbjpochjagicaaGreatDoorRR.Pl
