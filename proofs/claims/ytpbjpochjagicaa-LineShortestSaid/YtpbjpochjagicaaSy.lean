/- Plain laws: the best of all ways, one after the other (LineShortest). -/
import Derived.Test.YtpbjpochjagicaaSx
namespace Go.Proofs.Ytpbjpochjagicaa.Pl

/-- the lines that do not bar the car. -/
def opens (n : Nt) (c : Cch) : List Nat := (List.range n.tracks.length).filter fun i => decide ((barred c (n.tracks.getD i default)).length = 0)
theorem openOf_opens {n : Nt} {c : Cch} : openOf n c = ints (opens n c) := rfl
theorem mem_opens {n : Nt} {c : Cch} {k : Nat} : k ∈ opens n c ↔ k < n.tracks.length ∧ barred c (n.tracks.getD k default) = [] := by
  simp only [opens, List.mem_filter, List.mem_range, decide_eq_true_eq, List.length_eq_zero_iff]
theorem opens_nodup {n : Nt} {c : Cch} : (opens n c).Nodup := List.nodup_range.filter _
theorem opens_len {n : Nt} {c : Cch} : (opens n c).length ≤ n.tracks.length := by
  have := List.length_filter_le (fun i => decide ((barred c (n.tracks.getD i default)).length = 0)) (List.range n.tracks.length)
  simpa [opens] using this
theorem opens_all {n : Nt} {c : Cch} : ∀ k, k < n.tracks.length → (∃ p, (run n c [] p k).2.2 = 0) → k ∈ opens n c := fun _ hk ⟨_, h⟩ => mem_opens.2 ⟨hk, (run_fine h).1⟩

/-- the best one of the first ways that lead to a station, or -1. -/
def BestAt (n : Nt) (c : Cch) (p0 : Place) (ds : Int) (L : List (List Nat)) (k : Nat) (best : Int) : Prop :=
  (best = -1 ∧ ∀ j l, j < k → L[j]? = some l → (endOf (run n c []) p0 l).1 ≠ ds) ∨
  ∃ (b : Nat) (x : List Nat), best = (b : Int) ∧ b < k ∧ L[b]? = some x ∧ (endOf (run n c []) p0 x).1 = ds ∧ ∀ j l, j < k → L[j]? = some l → (endOf (run n c []) p0 l).1 = ds → better (tripOf n c p0 l) (tripOf n c p0 x) = false
section
variable {n : Nt} {c : Cch} {p0 : Place} {ds : Int} {L : List (List Nat)} {k : Nat} {best : Int} {l : List Nat}
theorem best_zero : BestAt n c p0 ds L 0 (-1) := .inl ⟨rfl, fun _ _ h => absurd h (Nat.not_lt_zero _)⟩
theorem best_away (h : BestAt n c p0 ds L k best) (hl : L[k]? = some l) (he : (endOf (run n c []) p0 l).1 ≠ ds) : BestAt n c p0 ds L (k + 1) best := by
  rcases h with ⟨h1, h2⟩ | ⟨b, x, h1, h2, h3, h4, h5⟩
  · refine .inl ⟨h1, fun j y hj hy => ?_⟩
    rcases Nat.lt_succ_iff_lt_or_eq.1 hj with hj | rfl
    · exact h2 j y hj hy
    · rw [hl] at hy; cases hy; exact he
  · refine .inr ⟨b, x, h1, by omega, h3, h4, fun j y hj hy hd => ?_⟩
    rcases Nat.lt_succ_iff_lt_or_eq.1 hj with hj | rfl
    · exact h5 j y hj hy hd
    · rw [hl] at hy; cases hy; exact absurd hd he
theorem best_first (h : ∀ j l, j < k → L[j]? = some l → (endOf (run n c []) p0 l).1 ≠ ds) (hl : L[k]? = some l) (he : (endOf (run n c []) p0 l).1 = ds) : BestAt n c p0 ds L (k + 1) k := by
  refine .inr ⟨k, l, rfl, by omega, hl, he, fun j y hj hy hd => ?_⟩
  rcases Nat.lt_succ_iff_lt_or_eq.1 hj with hj | rfl
  · exact absurd hd (h j y hj hy)
  · rw [hl] at hy; cases hy; exact better_self _
theorem best_next {b : Nat} {x : List Nat} (hb : b < k) (_hx : L[b]? = some x) (_hxe : (endOf (run n c []) p0 x).1 = ds) (h : ∀ j l, j < k → L[j]? = some l → (endOf (run n c []) p0 l).1 = ds → better (tripOf n c p0 l) (tripOf n c p0 x) = false)
    (hl : L[k]? = some l) (he : (endOf (run n c []) p0 l).1 = ds) (hs : better (tripOf n c p0 l) (tripOf n c p0 x) = true) : BestAt n c p0 ds L (k + 1) k := by
  refine .inr ⟨k, l, rfl, by omega, hl, he, fun j y hj hy hd => ?_⟩
  rcases Nat.lt_succ_iff_lt_or_eq.1 hj with hj | rfl
  · exact better_neg_trans (h j y hj hy hd) (better_asymm hs)
  · rw [hl] at hy; cases hy; exact better_self _
theorem best_keep {b : Nat} {x : List Nat} (hb : b < k) (hx : L[b]? = some x) (hxe : (endOf (run n c []) p0 x).1 = ds) (h : ∀ j l, j < k → L[j]? = some l → (endOf (run n c []) p0 l).1 = ds → better (tripOf n c p0 l) (tripOf n c p0 x) = false)
    (hl : L[k]? = some l) (hs : better (tripOf n c p0 l) (tripOf n c p0 x) = false) : BestAt n c p0 ds L (k + 1) b := by
  refine .inr ⟨b, x, rfl, by omega, hx, hxe, fun j y hj hy hd => ?_⟩
  rcases Nat.lt_succ_iff_lt_or_eq.1 hj with hj | rfl
  · exact h j y hj hy hd
  · rw [hl] at hy; cases hy; exact hs
end
section
variable {n : Nt} {c : Cch} {fr g ds : Int} {I : Nat} {best : Int}
theorem short_all (hs : ∀ j, j < I → j < (grow (run n c []) (fr, g) (opens n c) j).length) (hi : (grow (run n c []) (fr, g) (opens n c) I).length ≤ I) {l : List Nat} (h1 : RunOk n.tracks.length (run n c []) (fr, g) l) (h2 : (visits (run n c []) (fr, g) l).Nodup) :
    ∃ j, j < (grow (run n c []) (fr, g) (opens n c) I).length ∧ (grow (run n c []) (fr, g) (opens n c) I)[j]? = some l := by
  obtain ⟨j, hj, he⟩ := List.getElem_of_mem (grow_all opens_all hs hi l.length l rfl h1 h2)
  exact ⟨j, hj, by rw [List.getElem?_eq_getElem hj, he]⟩
theorem best_none (hs : ∀ j, j < I → j < (grow (run n c []) (fr, g) (opens n c) j).length) (hi : (grow (run n c []) (fr, g) (opens n c) I).length ≤ I)
    (h : ∀ j l, j < (grow (run n c []) (fr, g) (opens n c) I).length → (grow (run n c []) (fr, g) (opens n c) I)[j]? = some l → (endOf (run n c []) (fr, g) l).1 ≠ ds) : way n c fr g ds = none :=
  short_none fun l h1 h2 => by
    obtain ⟨j, h3, h4⟩ := short_all hs hi h1 h2
    exact h j l h3 h4
theorem best_some (hk : ∀ i, i < n.tracks.length → 1 ≤ (n.tracks.getD i default).km) (U : List Place) (hU : ∀ x, Gets (run n c []) n.tracks.length (fr, g) x → x ∈ U) (hUl : U.length ≤ 24)
    (hs : ∀ j, j < I → j < (grow (run n c []) (fr, g) (opens n c) j).length) (hi : (grow (run n c []) (fr, g) (opens n c) I).length ≤ I) {x : List Nat} (hx : x ∈ grow (run n c []) (fr, g) (opens n c) I) (he : (endOf (run n c []) (fr, g) x).1 = ds)
    (h : ∀ j l, j < (grow (run n c []) (fr, g) (opens n c) I).length → (grow (run n c []) (fr, g) (opens n c) I)[j]? = some l → (endOf (run n c []) (fr, g) l).1 = ds → better (tripOf n c (fr, g) l) (tripOf n c (fr, g) x) = false) :
    way n c fr g ds = some (tripOf n c (fr, g) x) := by
  obtain ⟨h1, h2⟩ := grow_simple (r := run n c []) (p0 := (fr, g)) (fun k hk => (mem_opens.1 hk).1) I x hx
  refine short_best hk U hU hUl h1 h2 he fun l h3 h4 h5 => ?_
  obtain ⟨j, h6, h7⟩ := short_all hs hi h3 h4
  exact h j l h6 h7 h5
end
end Go.Proofs.Ytpbjpochjagicaa.Pl
