/- Plain laws: better cars, larger nets. -/
import Derived.Test.YtpbjpochjagicaaWy
namespace Go.Proofs.Ytpbjpochjagicaa.Pl

theorem barred_nil (c : Cch) (t : Trk) : barred c t = [] ↔ t.gauge ∈ c.gauges ∧ c.size ≤ t.room ∧ c.load ≤ t.load ∧ (t.brake = 0 ∨ t.brake ∈ c.brakes) ∧ (t.heat = 0 ∨ t.heat ∈ c.heats) ∧ (t.ferry = false ∨ c.hooks = true) := by
  unfold barred
  simp only [List.append_eq_nil_iff]
  constructor
  · rintro ⟨⟨⟨⟨⟨h1, h2⟩, h3⟩, h4⟩, h5⟩, h6⟩
    refine ⟨?_, ?_, ?_, ?_, ?_, ?_⟩
    · by_cases h : t.gauge ∈ c.gauges
      · exact h
      · rw [if_neg h] at h1; cases h1
    · by_cases h : t.room < c.size
      · rw [if_pos h] at h2; cases h2
      · omega
    · by_cases h : t.load < c.load
      · rw [if_pos h] at h3; cases h3
      · omega
    · by_cases h : t.brake = 0
      · exact .inl h
      · by_cases hb : t.brake ∈ c.brakes
        · exact .inr hb
        · rw [if_pos ⟨h, hb⟩] at h4; cases h4
    · by_cases h : t.heat = 0
      · exact .inl h
      · by_cases hb : t.heat ∈ c.heats
        · exact .inr hb
        · rw [if_pos ⟨h, hb⟩] at h5; cases h5
    · cases hf : t.ferry
      · exact .inl rfl
      · cases hh : c.hooks
        · rw [if_pos ⟨hf, hh⟩] at h6; cases h6
        · exact .inr rfl
  · rintro ⟨h1, h2, h3, h4, h5, h6⟩
    rw [if_pos h1, if_neg (by omega), if_neg (by omega), if_neg (fun e => h4.elim e.1 e.2), if_neg (fun e => h5.elim e.1 e.2), if_neg (fun e => h6.elim (fun h => by rw [e.1] at h; cases h) (fun h => by rw [e.2] at h; cases h))]
    exact ⟨⟨⟨⟨⟨rfl, rfl⟩, rfl⟩, rfl⟩, rfl⟩, rfl⟩

structure Finer (c d : Cch) : Prop where
  gauges : ∀ x ∈ c.gauges, x ∈ d.gauges
  size : d.size ≤ c.size
  load : d.load ≤ c.load
  brakes : ∀ x ∈ c.brakes, x ∈ d.brakes
  heats : ∀ x ∈ c.heats, x ∈ d.heats
  hooks : c.hooks = true → d.hooks = true
theorem Finer.barred {c d : Cch} (h : Finer c d) {t : Trk} (hb : Pl.barred c t = []) : Pl.barred d t = [] := by
  rw [barred_nil] at hb ⊢
  obtain ⟨h1, h2, h3, h4, h5, h6⟩ := hb
  have := h.size; have := h.load
  exact ⟨h.gauges _ h1, by omega, by omega, h4.imp id (h.brakes _), h5.imp id (h.heats _), h6.imp id h.hooks⟩
theorem Finer.refl (c : Cch) : Finer c c := ⟨fun _ h => h, Int.le_refl _, Int.le_refl _, fun _ h => h, fun _ h => h, id⟩
theorem Finer.trans {c d e : Cch} (h : Finer c d) (k : Finer d e) : Finer c e :=
  ⟨fun x hx => k.gauges x (h.gauges x hx), Int.le_trans k.size h.size, Int.le_trans k.load h.load, fun x hx => k.brakes x (h.brakes x hx), fun x hx => k.heats x (h.heats x hx), fun hh => k.hooks (h.hooks hh)⟩
theorem mem_insert' {n y : Int} : ∀ {l : List Int}, y ∈ l → y ∈ insert n l
  | x :: l, h => by
    rw [insert]
    split
    · exact List.mem_cons_of_mem _ h
    · rcases List.mem_cons.1 h with rfl | h
      · simp
      · exact List.mem_cons_of_mem _ (mem_insert' h)
theorem finer_give (c : Cch) (t : Int) : Finer c (give c t) := by
  unfold give
  split
  · exact { Finer.refl c with hooks := fun _ => rfl }
  · split
    · exact { Finer.refl c with heats := fun x hx => mem_insert' hx }
    · split
      · exact { Finer.refl c with brakes := fun x hx => mem_insert' hx }
      · exact { Finer.refl c with gauges := fun x hx => mem_insert' hx }
theorem finer_given : ∀ (l : List Int) (c : Cch), Finer c (given c l)
  | [], c => Finer.refl c
  | t :: l, c => (finer_give c t).trans (finer_given l (give c t))

structure Wider (n x : Nt) : Prop where
  len : n.tracks.length ≤ x.tracks.length
  tr : ∀ i, i < n.tracks.length → x.tracks.getD i default = n.tracks.getD i default
  shops : ∀ s ∈ n.shops, s ∈ x.shops
theorem Wider.run {n x : Nt} {c d : Cch} (h : Wider n x) (f : Finer c d) : ∀ {l : List Nat} {p : Place}, RunOk n.tracks.length (Pl.run n c []) p l →
    RunOk x.tracks.length (Pl.run x d []) p l ∧ endOf (Pl.run x d []) p l = endOf (Pl.run n c []) p l ∧ kmOf x l = kmOf n l
  | [], _, _ => ⟨trivial, rfl, rfl⟩
  | i :: l, p, ⟨hi, hz, hr⟩ => by
    obtain ⟨f1, f2, f3, f4, _⟩ := run_fine hz
    have ht := h.tr i hi
    have hz2 : (Pl.run x d [] p i).2.2 = 0 := run_make (by rw [ht]; exact f.barred f1) (by rw [ht]; exact f2) (fun e => h.shops _ (f3 (by rw [← ht]; exact e)))
    obtain ⟨_, _, _, g4, _⟩ := run_fine hz2
    have hn : (Pl.run x d [] p i).1 = (Pl.run n c [] p i).1 := by rw [g4, f4, ht]
    obtain ⟨i1, i2, i3⟩ := h.run f hr
    simp only [RunOk, endOf, kmOf]
    rw [hn, ht]
    exact ⟨⟨Nat.lt_of_lt_of_le hi h.len, hz2, i1⟩, i2, by rw [i3]⟩
/-- A better car in a larger net comes no less far, and its way is no longer. -/
theorem Wider.way {n x : Nt} {c d : Cch} (h : Wider n x) (f : Finer c d) {fr g to : Int} (V : List Place) (hV : ∀ y, Gets (Pl.run x d []) x.tracks.length (fr, g) y → y ∈ V) (hVl : V.length ≤ 24) (hk' : ∀ i, i < x.tracks.length → 0 ≤ (x.tracks.getD i default).km)
    {t : Trip} (hw : Pl.way n c fr g to = some t) : ∃ u, Pl.way x d fr g to = some u ∧ u.km ≤ t.km := by
  obtain ⟨l, _, l1, l2, _, l3, _⟩ := way_run hw
  obtain ⟨r1, r2, r3⟩ := h.run f l1
  obtain ⟨u, u1, u2⟩ := way_le (n := x) (c := d) (fr := fr) (g := g) (to := to) V hV hVl hk' r1 (by rw [r2]; exact l2)
  exact ⟨u, u1, by omega⟩
theorem Wider.gets {n x : Nt} {c d : Cch} (h : Wider n x) (f : Finer c d) {p q : Place} (hg : Gets (Pl.run n c []) n.tracks.length p q) : Gets (Pl.run x d []) x.tracks.length p q := by
  obtain ⟨l, l1, l2⟩ := gets_run hg
  obtain ⟨r1, r2, _⟩ := h.run f l1
  have := run_gets r1
  rw [r2, l2] at this
  exact this
end Go.Proofs.Ytpbjpochjagicaa.Pl
