/- Plain laws: a way turned about. -/
import Derived.Test.YtpbjpochjagicaaWy
namespace Go.Proofs.Ytpbjpochjagicaa.Pl

/-- Over a way turned about a car comes back, on the first line's bogies, with as many changes but for the first station's. -/
theorem back_run {n : Nt} {c : Cch} (hd : ∀ i, i < n.tracks.length → (n.tracks.getD i default).a ≠ (n.tracks.getD i default).b) : ∀ (l : List Nat) (p : Place) (k : Nat), RunOk n.tracks.length (run n c []) p (k :: l) →
    RunOk n.tracks.length (run n c []) (endOf (run n c []) p (k :: l)) (k :: l).reverse ∧ endOf (run n c []) (endOf (run n c []) p (k :: l)) (k :: l).reverse = (p.1, (n.tracks.getD k default).gauge) ∧
    chOf (run n c []) (endOf (run n c []) p (k :: l)) (k :: l).reverse = chOf (run n c []) (run n c [] p k).1 l
  | [], p, k, ⟨hk, hz, _⟩ => by
    obtain ⟨f1, f2, f3, f4, f5⟩ := run_fine hz
    have hdk := hd k hk
    have hz2 : (run n c [] (run n c [] p k).1 k).2.2 = 0 := by
      refine run_make f1 ?_ ?_
      · rw [f4]
        by_cases h : p.1 = (n.tracks.getD k default).a
        · rw [if_pos h]; exact .inr rfl
        · rw [if_neg h]; exact .inl rfl
      · intro h
        rw [f4] at h
        exact absurd rfl h
    obtain ⟨g1, g2, g3, g4, g5⟩ := run_fine hz2
    simp only [List.reverse_cons, List.reverse_nil, List.nil_append, endOf, RunOk, chOf, and_true]
    refine ⟨⟨hk, hz2⟩, ?_, ?_⟩
    · rw [g4]
      by_cases h : p.1 = (n.tracks.getD k default).a
      · have e1 : (run n c [] p k).1.1 = (n.tracks.getD k default).b := by rw [f4, if_pos h]
        rw [if_neg (by rw [e1]; exact Ne.symm hdk), h]
      · have e1 : (run n c [] p k).1.1 = (n.tracks.getD k default).a := by rw [f4, if_neg h]
        rw [if_pos e1, f2.resolve_left h]
    · rw [g5, f4]
      simp
  | j :: l, p, k, ⟨hk, hz, h⟩ => by
    have ih := back_run hd l (run n c [] p k).1 j h
    obtain ⟨hj, hzj, hrest⟩ := h
    obtain ⟨f1, f2, f3, f4, f5⟩ := run_fine hz
    obtain ⟨e1, e2, e3, e4, e5⟩ := run_fine hzj
    have hdk := hd k hk
    obtain ⟨i1, i2, i3⟩ := ih
    have hend : endOf (run n c []) p (k :: j :: l) = endOf (run n c []) (run n c [] p k).1 (j :: l) := rfl
    have hrev : (k :: j :: l).reverse = (j :: l).reverse ++ [k] := List.reverse_cons
    have hz2 : (run n c [] ((run n c [] p k).1.1, (n.tracks.getD j default).gauge) k).2.2 = 0 := by
      refine run_make f1 ?_ ?_
      · show (run n c [] p k).1.1 = _ ∨ (run n c [] p k).1.1 = _
        rw [f4]
        by_cases h : p.1 = (n.tracks.getD k default).a
        · rw [if_pos h]; exact .inr rfl
        · rw [if_neg h]; exact .inl rfl
      · intro h
        refine e3 ?_
        rw [f4]
        exact Ne.symm h
    obtain ⟨g1, g2, g3, g4, g5⟩ := run_fine hz2
    rw [hend, hrev]
    refine ⟨(run_append _ _ _).2 ⟨i1, by rw [i2]; exact ⟨hk, hz2, trivial⟩⟩, ?_, ?_⟩
    · rw [end_append, i2]
      simp only [endOf]
      rw [g4]
      by_cases h : p.1 = (n.tracks.getD k default).a
      · have e1 : (run n c [] p k).1.1 = (n.tracks.getD k default).b := by rw [f4, if_pos h]
        rw [if_neg (by rw [e1]; exact Ne.symm hdk), h]
      · have e1 : (run n c [] p k).1.1 = (n.tracks.getD k default).a := by rw [f4, if_neg h]
        rw [if_pos e1, f2.resolve_left h]
    · rw [ch_append, i2, i3]
      simp only [chOf]
      rw [g5, e5, f4]
      simp only [ne_comm (a := (n.tracks.getD k default).gauge)]
      omega
theorem first_change {n : Nt} {c : Cch} {p : Place} {k : Nat} {l : List Nat} (h : RunOk n.tracks.length (run n c []) p (k :: l)) :
    chOf (run n c []) p (k :: l) = (if (n.tracks.getD k default).gauge ≠ p.2 then 1 else 0) + chOf (run n c []) (run n c [] p k).1 l := by
  obtain ⟨f1, f2, f3, f4, f5⟩ := run_fine h.2.1
  simp only [chOf]
  rw [f5]
  simp
/-- The gauge on which a run ends is its last line's. -/
theorem end_gauge {n : Nt} {c : Cch} : ∀ (l : List Nat) (p : Place) (k : Nat), RunOk n.tracks.length (run n c []) p (l ++ [k]) → (endOf (run n c []) p (l ++ [k])).2 = (n.tracks.getD k default).gauge ∧ barred c (n.tracks.getD k default) = [] := by
  intro l p k h
  obtain ⟨_, h2⟩ := (run_append l [k] p).1 h
  obtain ⟨f1, f2, f3, f4, f5⟩ := run_fine h2.2.1
  rw [end_append]
  simp only [endOf]
  rw [f4]
  exact ⟨rfl, f1⟩
theorem barred_gauge {c : Cch} {t : Trk} (h : barred c t = []) : t.gauge ∈ c.gauges := by
  unfold barred at h
  simp only [List.append_eq_nil_iff] at h
  by_cases hg : t.gauge ∈ c.gauges
  · exact hg
  · rw [if_neg hg] at h
    simp at h
theorem ints_reverse (l : List Nat) : ints l.reverse = (ints l).reverse := by simp [ints]
theorem ints_length (l : List Nat) : (ints l).length = l.length := by simp [ints]
end Go.Proofs.Ytpbjpochjagicaa.Pl
