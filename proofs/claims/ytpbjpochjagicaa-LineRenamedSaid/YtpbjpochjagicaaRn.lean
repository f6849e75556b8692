/- Plain laws: stations and lines that have other numbers. -/
import Derived.Test.YtpbjpochjagicaaWy
namespace Go.Proofs.Ytpbjpochjagicaa.Pl

structure Renamed (n x : Nt) (σ : Int → Int) (τ : Nat → Nat) : Prop where
  len : x.tracks.length = n.tracks.length
  tlt : ∀ i, i < n.tracks.length → τ i < n.tracks.length
  tsur : ∀ j, j < n.tracks.length → ∃ i, i < n.tracks.length ∧ τ i = j
  tr : ∀ i, i < n.tracks.length → ((x.tracks.getD (τ i) default).km = (n.tracks.getD i default).km ∧ (x.tracks.getD (τ i) default).gauge = (n.tracks.getD i default).gauge ∧ (x.tracks.getD (τ i) default).room = (n.tracks.getD i default).room ∧
    (x.tracks.getD (τ i) default).brake = (n.tracks.getD i default).brake ∧ (x.tracks.getD (τ i) default).heat = (n.tracks.getD i default).heat ∧ (x.tracks.getD (τ i) default).load = (n.tracks.getD i default).load ∧ (x.tracks.getD (τ i) default).ferry = (n.tracks.getD i default).ferry)
  ends : ∀ i, i < n.tracks.length → ((x.tracks.getD (τ i) default).a = σ (n.tracks.getD i default).a ∧ (x.tracks.getD (τ i) default).b = σ (n.tracks.getD i default).b) ∨ ((x.tracks.getD (τ i) default).a = σ (n.tracks.getD i default).b ∧ (x.tracks.getD (τ i) default).b = σ (n.tracks.getD i default).a)
  inj : ∀ s s', 0 ≤ s → s < n.stops → 0 ≤ s' → s' < n.stops → σ s = σ s' → s = s'
  shops : ∀ s, 0 ≤ s → s < n.stops → (σ s ∈ x.shops ↔ s ∈ n.shops)
  inn : ∀ i, i < n.tracks.length → 0 ≤ (n.tracks.getD i default).a ∧ (n.tracks.getD i default).a < n.stops ∧ 0 ≤ (n.tracks.getD i default).b ∧ (n.tracks.getD i default).b < n.stops ∧ (n.tracks.getD i default).a ≠ (n.tracks.getD i default).b

section
variable {n x : Nt} {σ : Int → Int} {τ : Nat → Nat} {c : Cch}
theorem Renamed.barred (h : Renamed n x σ τ) {i : Nat} (hi : i < n.tracks.length) : Pl.barred c (x.tracks.getD (τ i) default) = Pl.barred c (n.tracks.getD i default) := by
  obtain ⟨_, h2, h3, h4, h5, h6, h7⟩ := h.tr i hi
  unfold Pl.barred
  rw [h2, h3, h4, h5, h6, h7]
theorem Renamed.step (h : Renamed n x σ τ) {i : Nat} (hi : i < n.tracks.length) {p : Place} (p0 : 0 ≤ p.1) (p1 : p.1 < n.stops) :
    ((run x c [] (σ p.1, p.2) (τ i)).2.2 = 0 ↔ (run n c [] p i).2.2 = 0) ∧ ((run n c [] p i).2.2 = 0 → (run x c [] (σ p.1, p.2) (τ i)).1 = (σ (run n c [] p i).1.1, (run n c [] p i).1.2) ∧ 0 ≤ (run n c [] p i).1.1 ∧ (run n c [] p i).1.1 < n.stops) := by
  obtain ⟨a0, a1, b0, b1, hne⟩ := h.inn i hi
  have hb := h.barred (c := c) hi
  have he := h.ends i hi
  have hg := (h.tr i hi).2.1
  have hsh := h.shops p.1 p0 p1
  have back : (run x c [] (σ p.1, p.2) (τ i)).2.2 = 0 → (run n c [] p i).2.2 = 0 := fun hz => by
    obtain ⟨f1, f2, f3, _, _⟩ := run_fine hz
    refine run_make (by rw [← hb]; exact f1) ?_ (fun e => hsh.1 (f3 (by rw [hg]; exact e)))
    rcases he with ⟨e1, e2⟩ | ⟨e1, e2⟩
    · rcases f2 with f2 | f2
      · exact .inl (h.inj _ _ p0 p1 a0 a1 (by rw [← e1]; exact f2))
      · exact .inr (h.inj _ _ p0 p1 b0 b1 (by rw [← e2]; exact f2))
    · rcases f2 with f2 | f2
      · exact .inr (h.inj _ _ p0 p1 b0 b1 (by rw [← e1]; exact f2))
      · exact .inl (h.inj _ _ p0 p1 a0 a1 (by rw [← e2]; exact f2))
  have fwd : (run n c [] p i).2.2 = 0 → (run x c [] (σ p.1, p.2) (τ i)).2.2 = 0 := fun hz => by
    obtain ⟨f1, f2, f3, _, _⟩ := run_fine hz
    refine run_make (by rw [hb]; exact f1) ?_ (fun e => hsh.2 (f3 (by rw [← hg]; exact e)))
    show σ p.1 = _ ∨ σ p.1 = _
    rcases he with ⟨e1, e2⟩ | ⟨e1, e2⟩
    · rcases f2 with f2 | f2
      · exact .inl (by rw [e1, f2])
      · exact .inr (by rw [e2, f2])
    · rcases f2 with f2 | f2
      · exact .inr (by rw [e2, f2])
      · exact .inl (by rw [e1, f2])
  refine ⟨⟨back, fwd⟩, fun hz => ?_⟩
  obtain ⟨f1, f2, f3, f4, _⟩ := run_fine hz
  obtain ⟨_, _, _, g4, _⟩ := run_fine (fwd hz)
  have hσ : σ (n.tracks.getD i default).a ≠ σ (n.tracks.getD i default).b := fun e => hne (h.inj _ _ a0 a1 b0 b1 e)
  rw [g4, f4, hg]
  by_cases h1 : p.1 = (n.tracks.getD i default).a
  · simp only [if_pos h1]
    refine ⟨?_, b0, b1⟩
    rcases he with ⟨e1, e2⟩ | ⟨e1, e2⟩
    · rw [if_pos (by rw [e1, h1]), e2]
    · rw [if_neg (by rw [e1, h1]; exact hσ), e1]
  · have h2 := f2.resolve_left h1
    simp only [if_neg h1]
    refine ⟨?_, a0, a1⟩
    rcases he with ⟨e1, e2⟩ | ⟨e1, e2⟩
    · rw [if_neg (by rw [e1, h2]; exact Ne.symm hσ), e1]
    · rw [if_pos (by rw [e1, h2]), e2]
theorem Renamed.run (h : Renamed n x σ τ) : ∀ (l : List Nat) (p : Place), 0 ≤ p.1 → p.1 < n.stops → RunOk n.tracks.length (Pl.run n c []) p l →
    RunOk x.tracks.length (Pl.run x c []) (σ p.1, p.2) (l.map τ) ∧ endOf (Pl.run x c []) (σ p.1, p.2) (l.map τ) = (σ (endOf (Pl.run n c []) p l).1, (endOf (Pl.run n c []) p l).2) ∧ kmOf x (l.map τ) = kmOf n l
  | [], p, _, _, _ => ⟨trivial, rfl, rfl⟩
  | i :: l, p, p0, p1, ⟨hi, hz, hr⟩ => by
    obtain ⟨s1, s2⟩ := h.step (c := c) hi p0 p1
    obtain ⟨s3, s4, s5⟩ := s2 hz
    obtain ⟨i1, i2, i3⟩ := h.run l (Pl.run n c [] p i).1 s4 s5 hr
    simp only [List.map_cons, RunOk, endOf, kmOf]
    rw [s3]
    exact ⟨⟨by rw [h.len]; exact h.tlt i hi, s1.2 hz, i1⟩, i2, by rw [(h.tr i hi).1, i3]⟩
theorem Renamed.back (h : Renamed n x σ τ) : ∀ (l : List Nat) (p : Place), 0 ≤ p.1 → p.1 < n.stops → RunOk x.tracks.length (Pl.run x c []) (σ p.1, p.2) l →
    ∃ k, l = k.map τ ∧ RunOk n.tracks.length (Pl.run n c []) p k ∧ 0 ≤ (endOf (Pl.run n c []) p k).1 ∧ (endOf (Pl.run n c []) p k).1 < n.stops
  | [], p, p0, p1, _ => ⟨[], rfl, trivial, p0, p1⟩
  | j :: l, p, p0, p1, ⟨hj, hz, hr⟩ => by
    rw [h.len] at hj
    obtain ⟨i, hi, rfl⟩ := h.tsur j hj
    obtain ⟨s1, s2⟩ := h.step (c := c) hi p0 p1
    have hz' := s1.1 hz
    obtain ⟨s3, s4, s5⟩ := s2 hz'
    rw [s3] at hr
    obtain ⟨k, k1, k2, k3, k4⟩ := h.back l (Pl.run n c [] p i).1 s4 s5 hr
    exact ⟨i :: k, by rw [k1]; rfl, ⟨hi, hz', k2⟩, k3, k4⟩
/-- Stations are reached just the same, over as many kilometres. -/
theorem Renamed.way (h : Renamed n x σ τ) {fr g to : Int} (f0 : 0 ≤ fr) (f1 : fr < n.stops) (t0 : 0 ≤ to) (t1 : to < n.stops) (U V : List Place) (hU : ∀ y, Gets (Pl.run n c []) n.tracks.length (fr, g) y → y ∈ U) (hUl : U.length ≤ 24)
    (hV : ∀ y, Gets (Pl.run x c []) x.tracks.length (σ fr, g) y → y ∈ V) (hVl : V.length ≤ 24) (hk : ∀ i, i < n.tracks.length → 0 ≤ (n.tracks.getD i default).km) (hk' : ∀ i, i < x.tracks.length → 0 ≤ (x.tracks.getD i default).km) :
    (Pl.way n c fr g to = none ∧ Pl.way x c (σ fr) g (σ to) = none) ∨ ∃ t u, Pl.way n c fr g to = some t ∧ Pl.way x c (σ fr) g (σ to) = some u ∧ t.km = u.km := by
  cases hw : Pl.way n c fr g to with
  | some t =>
    obtain ⟨l, _, l1, l2, _, l3, _⟩ := way_run hw
    obtain ⟨r1, r2, r3⟩ := h.run l (fr, g) f0 f1 l1
    obtain ⟨u, u1, u2⟩ := way_le (n := x) (c := c) (fr := σ fr) (g := g) (to := σ to) V hV hVl hk' r1 (by rw [r2, ← l2])
    obtain ⟨k, _, k1, k2, _, k3, _⟩ := way_run u1
    obtain ⟨q, rfl, q1, q2, q3⟩ := h.back k (fr, g) f0 f1 k1
    obtain ⟨v1, v2, v3⟩ := h.run q (fr, g) f0 f1 q1
    have he : (endOf (Pl.run n c []) (fr, g) q).1 = to := h.inj _ _ q2 q3 t0 t1 (by
      have := congrArg Prod.fst v2
      simp only at this
      rw [← this]
      exact k2)
    obtain ⟨t', t2, t3⟩ := way_le (n := n) (c := c) (fr := fr) (g := g) (to := to) U hU hUl hk q1 he
    rw [hw] at t2
    injection t2 with t2
    subst t2
    exact .inr ⟨_, _, rfl, u1, by omega⟩
  | none =>
    cases hu : Pl.way x c (σ fr) g (σ to) with
    | none => exact .inl ⟨rfl, rfl⟩
    | some u =>
      exfalso
      obtain ⟨k, _, k1, k2, _, k3, _⟩ := way_run hu
      obtain ⟨q, rfl, q1, q2, q3⟩ := h.back k (fr, g) f0 f1 k1
      obtain ⟨v1, v2, v3⟩ := h.run q (fr, g) f0 f1 q1
      have he : (endOf (Pl.run n c []) (fr, g) q).1 = to := h.inj _ _ q2 q3 t0 t1 (by
        have := congrArg Prod.fst v2
        simp only at this
        rw [← this]
        exact k2)
      obtain ⟨t', t2, t3⟩ := way_le (n := n) (c := c) (fr := fr) (g := g) (to := to) U hU hUl hk q1 he
      rw [hw] at t2
      cases t2
end
end Go.Proofs.Ytpbjpochjagicaa.Pl
