/- Plain laws: a car that comes to stations line by line; some lines are rebuilt (LineWorked). -/
import Derived.Test.YtpbjpochjagicaaWy
namespace Go.Proofs.Ytpbjpochjagicaa.Pl

/-- over the lines from number i on, so many: what is met. -/
def sprd (r : Nat → Place × Bool × Int) : Nat → Nat → List Place → List Place
  | 0, _, met => met
  | m + 1, i, met => if (r i).2.2 ≠ 0 ∨ (r i).1 ∈ met then sprd r m (i + 1) met else sprd r m (i + 1) (met ++ [(r i).1])
theorem spread_sprd (r : Nat → Place × Bool × Int) : ∀ (m i : Nat) (met q : List Place), ∃ new, sprd r m i met = met ++ new ∧ spread r m i met q = (met ++ new, q ++ new)
  | 0, i, met, q => ⟨[], by simp [sprd], by simp [spread]⟩
  | m + 1, i, met, q => by
    rw [sprd, spread]
    by_cases hc : (r i).2.2 ≠ 0 ∨ (r i).1 ∈ met
    · rw [if_pos hc, if_pos hc]; exact spread_sprd r m (i + 1) met q
    · rw [if_neg hc, if_neg hc]
      obtain ⟨new, h1, h2⟩ := spread_sprd r m (i + 1) (met ++ [(r i).1]) (q ++ [(r i).1])
      exact ⟨(r i).1 :: new, by rw [h1]; simp, by rw [h2]; simp⟩
/-- what is met, from the place number k on. -/
def metFrom (r : Place → Nat → Place × Bool × Int) (m : Nat) (f : Nat) (met : List Place) (k : Nat) : List Place := bfs r m f met (met.drop k)
theorem metFrom_step {r : Place → Nat → Place × Bool × Int} {m f : Nat} {met : List Place} {k : Nat} (hk : k < met.length) :
    metFrom r m (f + 1) met k = metFrom r m f (sprd (r met[k]) m 0 met) (k + 1) := by
  unfold metFrom
  rw [List.drop_eq_getElem_cons hk, bfs]
  obtain ⟨new, h1, h2⟩ := spread_sprd (r met[k]) m 0 met (met.drop (k + 1))
  rw [h2, h1]
  simp only
  rw [List.drop_append_of_le_length (by omega)]
theorem metFrom_end {r : Place → Nat → Place × Bool × Int} {m f : Nat} {met : List Place} {k : Nat} (hk : met.length ≤ k) : metFrom r m f met k = met := by
  unfold metFrom
  rw [List.drop_of_length_le hk]
  cases f <;> rfl
theorem sprd_on {r : Nat → Place × Bool × Int} {m i : Nat} {met : List Place} (h : (r i).2.2 ≠ 0 ∨ (r i).1 ∈ met) : sprd r (m + 1) i met = sprd r m (i + 1) met := by rw [sprd, if_pos h]
theorem sprd_in {r : Nat → Place × Bool × Int} {m i : Nat} {met : List Place} (h : ¬ ((r i).2.2 ≠ 0 ∨ (r i).1 ∈ met)) : sprd r (m + 1) i met = sprd r m (i + 1) (met ++ [(r i).1]) := by rw [sprd, if_neg h]
theorem reached_from (n : Nt) (c : Cch) (reb : List Int) (p : Place) : reached n c reb p = metFrom (run n c reb) n.tracks.length 100 [p] 0 := rfl
/-- Nothing else than what is reached is met. -/
structure MetOk (r : Place → Nat → Place × Bool × Int) (m : Nat) (p : Place) (met : List Place) : Prop where
  nd : met.Nodup
  gets : ∀ x ∈ met, Gets r m p x
theorem MetOk.one (r : Place → Nat → Place × Bool × Int) (m : Nat) (p : Place) : MetOk r m p [p] := ⟨by simp, fun x hx => by simp at hx; subst hx; exact .refl⟩
theorem MetOk.more {r : Place → Nat → Place × Bool × Int} {m : Nat} {p x : Place} {met : List Place} {i : Nat} (h : MetOk r m p met) (hx : x ∈ met) (hi : i < m) (hz : (r x i).2.2 = 0) (hn : (r x i).1 ∉ met) : MetOk r m p (met ++ [(r x i).1]) :=
  ⟨by
    rw [List.nodup_append]
    refine ⟨h.nd, by simp, fun a ha b hb => ?_⟩
    simp at hb; subst hb; rintro rfl; exact hn ha, fun y hy => by
    rcases List.mem_append.1 hy with hy | hy
    · exact h.gets y hy
    · simp at hy; subst hy; exact (h.gets x hx).step hi hz⟩
theorem MetOk.length {r : Place → Nat → Place × Bool × Int} {m : Nat} {p : Place} {met : List Place} (h : MetOk r m p met) (U : List Place) (hU : ∀ x, Gets r m p x → x ∈ U) : met.length ≤ U.length :=
  length_le_of_nodup_subset met U h.nd fun x hx => hU x (h.gets x hx)

/-- A line that is not rebuilt. -/
theorem run_not {n : Nt} {c : Cch} {reb : List Int} {p : Place} {k : Nat} (h : (k : Int) ∉ reb) : run n c reb p k = run n c [] p k := by
  unfold run
  simp [h]
/-- A line that is rebuilt. -/
theorem run_reb {n : Nt} {c : Cch} {reb : List Int} {p : Place} {k : Nat} (h : (k : Int) ∈ reb) :
    ((run n c reb p k).2.2 = 0 ↔ ((n.tracks.getD k default).a = p.1 ∨ (n.tracks.getD k default).b = p.1)) ∧
    ((run n c reb p k).2.2 = 0 → (run n c reb p k).1 = ((n.tracks.getD k default).a + (n.tracks.getD k default).b - p.1, p.2)) := by
  unfold run runT runTo
  simp only [h, decide_true, if_true]
  by_cases h1 : p.1 = (n.tracks.getD k default).a
  · rw [if_pos h1]
    refine ⟨⟨fun _ => .inl h1.symm, fun _ => rfl⟩, fun _ => ?_⟩
    rw [h1]; simp only [Prod.mk.injEq, and_true]; omega
  · rw [if_neg h1]
    by_cases h2 : p.1 = (n.tracks.getD k default).b
    · rw [if_pos h2]
      refine ⟨⟨fun _ => .inr h2.symm, fun _ => rfl⟩, fun _ => ?_⟩
      rw [h2]; simp only [Prod.mk.injEq, and_true]; omega
    · rw [if_neg h2]
      refine ⟨⟨fun h => by simp at h, fun h => ?_⟩, fun h => by simp at h⟩
      rcases h with h | h
      · exact absurd h.symm h1
      · exact absurd h.symm h2
theorem run_open {n : Nt} {c : Cch} {p : Place} {k : Nat} (h : (run n c [] p k).2.2 = 0) :
    (run n c [] p k).1 = ((n.tracks.getD k default).a + (n.tracks.getD k default).b - p.1, (n.tracks.getD k default).gauge) := by
  obtain ⟨_, he, _, h4, _⟩ := run_fine h
  rw [h4]
  by_cases h1 : p.1 = (n.tracks.getD k default).a
  · rw [if_pos h1, h1]; simp only [Prod.mk.injEq, and_true]; omega
  · rw [if_neg h1, he.resolve_left h1]; simp only [Prod.mk.injEq, and_true]; omega
/-- On whatever bogies a car comes, it has them. -/
theorem gets_gauge {n : Nt} {c : Cch} {reb : List Int} {m : Nat} {p x : Place} (hp : p.2 ∈ c.gauges) (h : Gets (run n c reb) m p x) : x.2 ∈ c.gauges := by
  induction h with
  | refl => exact hp
  | @step x i _ hi hz ih =>
    by_cases hr : (i : Int) ∈ reb
    · rw [(run_reb hr).2 hz]; exact ih
    · rw [run_not hr] at hz ⊢
      obtain ⟨hb, _, _, h4, _⟩ := run_fine hz
      rw [h4]
      unfold barred at hb
      simp only [List.append_eq_nil_iff] at hb
      have hb1 := hb.1.1.1.1.1
      by_cases hg : (n.tracks.getD i default).gauge ∈ c.gauges
      · exact hg
      · rw [if_neg hg] at hb1; cases hb1
theorem along_one (n : Nt) (c : Cch) (p : Place) (k : Nat) : (along n c p [(k : Int)] 0 0).2.1 = if (run n c [] p k).2.2 = 0 then -1 else 0 := by
  unfold along
  simp only [Int.toNat_natCast]
  by_cases h : (run n c [] p k).2.2 = 0
  · rw [if_neg (by simpa using h), if_pos h]; rfl
  · rw [if_pos h, if_neg h]
/-- Nothing has to be rebuilt just if nothing is lacking. -/
theorem fewest_nil {all : List Int} {f : List Int → Bool} : fewest all f = some [] ↔ f [] = true := by
  unfold fewest
  rw [fewestFrom]
  cases h : f []
  · have h0 : (lists all 0).find? f = none := by simp [lists, h]
    rw [h0]
    simp only [Bool.false_eq_true, iff_false]
    have : ∀ (k m : Nat), 0 < m → fewestFrom all f k m ≠ some [] := by
      intro k
      induction k with
      | zero => intro m _; simp [fewestFrom]
      | succ k ih =>
        intro m hm
        rw [fewestFrom]
        cases hf : (lists all m).find? f with
        | none => exact ih (m + 1) (by omega)
        | some l =>
          simp only
          intro e
          injection e with e
          subst e
          have := List.find?_some hf
          rw [h] at this; cases this
    exact this _ _ (by omega)
  · have h0 : (lists all 0).find? f = some [] := by simp [lists, h]
    rw [h0]
    simp
end Go.Proofs.Ytpbjpochjagicaa.Pl
