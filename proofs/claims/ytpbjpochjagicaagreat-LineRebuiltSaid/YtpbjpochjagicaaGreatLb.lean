/- Plain laws: a way, step by step, up to what bars the car. -/
import Derived.Test.YtpbjpochjagicaaGreatPl
namespace Go.Proofs.YtpbjpochjagicaaGreat.Pl

/-- What bars a car at a station on a line, step by step. -/
def due (n : Nt) (c : Cch) (fr g : Int) (t : Trk) : Int :=
  if fr ≠ t.a ∧ fr ≠ t.b then 7 else match barred c t with
  | b :: _ => b
  | [] => if g ≠ t.gauge ∧ fr ∉ n.shops then 8 else 0

theorem runT_due (n : Nt) (c : Cch) (fr g : Int) (t : Trk) (hb : ∀ x ∈ barred c t, x ≠ 0) :
  (runT n.shops c false (fr, g) t).2.2 = due n c fr g t ∧ (due n c fr g t = 0 → (runT n.shops c false (fr, g) t).1 = (t.a + t.b - fr, t.gauge)) := by
  unfold runT due
  by_cases ha : fr = t.a
  · subst ha
    simp only [runTo]
    cases hbb : barred c t with
    | nil =>
      simp only [if_true, if_neg (show ¬ (t.a ≠ t.a ∧ t.a ≠ t.b) by simp)]
      by_cases h2 : t.gauge ≠ g ∧ t.a ∉ n.shops
      · simp [h2.2, h2.1, Ne.symm h2.1]
      · have h3 : ¬ (g ≠ t.gauge ∧ t.a ∉ n.shops) := fun h => h2 ⟨Ne.symm h.1, h.2⟩
        simp only [Bool.false_eq_true, if_false, if_neg h2, if_neg h3]
        exact ⟨trivial, fun _ => by congr 1; omega⟩
    | cons b l =>
      have := hb b (by rw [hbb]; simp)
      simp [this]
  · by_cases hb2 : fr = t.b
    · subst hb2
      simp only [runTo, if_neg ha, if_true]
      cases hbb : barred c t with
      | nil =>
        simp only [if_neg (show ¬ (t.b ≠ t.a ∧ t.b ≠ t.b) by simp)]
        by_cases h2 : t.gauge ≠ g ∧ t.b ∉ n.shops
        · simp [h2.2, h2.1, Ne.symm h2.1]
        · have h3 : ¬ (g ≠ t.gauge ∧ t.b ∉ n.shops) := fun h => h2 ⟨Ne.symm h.1, h.2⟩
          simp only [Bool.false_eq_true, if_false, if_neg h2, if_neg h3]
          exact ⟨trivial, fun _ => by congr 1; omega⟩
      | cons b l =>
        have := hb b (by rw [hbb]; simp)
        simp [this]
    · simp [ha, hb2]

theorem barred_ne (c : Cch) (t : Trk) : ∀ x ∈ barred c t, x ≠ 0 ∧ x < 7 := by
  intro x hx
  unfold barred at hx
  simp only [List.mem_append] at hx
  rcases hx with ((((hx | hx) | hx) | hx) | hx) | hx <;> (split at hx <;> simp at hx <;> omega)

theorem run_due (n : Nt) (c : Cch) (fr g : Int) (k : Nat) :
    (run n c [] (fr, g) k).2.2 = due n c fr g (n.tracks.getD k default) ∧
    (due n c fr g (n.tracks.getD k default) = 0 → (run n c [] (fr, g) k).1 = ((n.tracks.getD k default).a + (n.tracks.getD k default).b - fr, (n.tracks.getD k default).gauge)) := by
  have hrun : run n c [] (fr, g) k = runT n.shops c false (fr, g) (n.tracks.getD k default) := by simp [run]
  rw [hrun]
  exact runT_due n c fr g _ (fun x hx => (barred_ne c _ x hx).1)

theorem along_bounds (n : Nt) (c : Cch) : ∀ (way : List Int) (p : Place) (i ch : Int),
    ((along n c p way i ch).2.1 = -1 ∧ (along n c p way i ch).2.2 = 0) ∨ (i ≤ (along n c p way i ch).2.1 ∧ (along n c p way i ch).2.1 < i + way.length ∧ (along n c p way i ch).2.2 ≠ 0)
  | [], p, i, ch => .inl ⟨rfl, rfl⟩
  | k :: l, p, i, ch => by
    rw [along]
    by_cases h : (run n c [] p k.toNat).2.2 = 0
    · rw [if_neg (by simp [h])]
      rcases along_bounds n c l (run n c [] p k.toNat).1 (i + 1) (ch + if (run n c [] p k.toNat).2.1 then 1 else 0) with h1 | ⟨h1, h2, h3⟩
      · exact .inl h1
      · exact .inr ⟨by omega, by simp; omega, h3⟩
    · rw [if_pos h]
      exact .inr ⟨by simp, by simp; omega, h⟩

/-- The way from line i on goes as the whole way: what is told is the same. -/
def Same (n : Nt) (c : Cch) (r : Int × Int) (way : List Int) (i : Nat) (p : Place) : Prop := ∃ ch, r = (along n c p (way.drop i) i ch).2

theorem Same.start (n : Nt) (c : Cch) (way : List Int) (p : Place) : Same n c (along n c p way 0 0).2 way 0 p := ⟨0, rfl⟩
theorem Same.stop {n : Nt} {c : Cch} {r : Int × Int} {way : List Int} {i : Nat} {fr g : Int} {k : Nat} {t : Trk} (h : Same n c r way i (fr, g)) (hi : i < way.length) (hk : way[i] = k) (ht : n.tracks.getD k default = t) (hd : due n c fr g t ≠ 0) :
    r.1 = i ∧ r.2 = due n c fr g t := by
  obtain ⟨ch, rfl⟩ := h
  have hr := run_due n c fr g k
  rw [ht] at hr
  rw [List.drop_eq_getElem_cons hi, along, hk, Int.toNat_natCast, if_pos (by rw [hr.1]; exact hd)]
  exact ⟨rfl, hr.1⟩
theorem Same.next {n : Nt} {c : Cch} {r : Int × Int} {way : List Int} {i : Nat} {fr g : Int} {k : Nat} {t : Trk} (h : Same n c r way i (fr, g)) (hi : i < way.length) (hk : way[i] = k) (ht : n.tracks.getD k default = t) (hd : due n c fr g t = 0) :
    Same n c r way (i + 1) (t.a + t.b - fr, t.gauge) := by
  obtain ⟨ch, rfl⟩ := h
  have hr := run_due n c fr g k
  rw [ht] at hr
  refine ⟨ch + if (run n c [] (fr, g) k).2.1 then 1 else 0, ?_⟩
  rw [List.drop_eq_getElem_cons hi, along, hk, Int.toNat_natCast, if_neg (by rw [hr.1]; simp [hd]), hr.2 hd]
  rfl
theorem Same.end_ {n : Nt} {c : Cch} {r : Int × Int} {way : List Int} {p : Place} (h : Same n c r way way.length p) : r.1 = -1 := by
  obtain ⟨ch, rfl⟩ := h
  rw [List.drop_length]
  rfl
end Go.Proofs.YtpbjpochjagicaaGreat.Pl
