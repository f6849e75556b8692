/- Plain laws: ways as lists of lines; what the walk over all ways finds; the least one. Plain laws: numbers below a number in an ascending list; both ends of open lines. -/
import Derived.Test.YtpbjpochjagicaaGreatDoorRRPl
namespace Go.Proofs.YtpbjpochjagicaaGreatDoorRR.Pl

abbrev Step := Place → Nat → Place × Bool × Int

/-- the places of a run: where it begins, and where each of its lines leads. -/
def visits (r : Step) : Place → List Nat → List Place
  | p, [] => [p]
  | p, i :: l => p :: visits r (r p i).1 l
def endOf (r : Step) : Place → List Nat → Place
  | p, [] => p
  | p, i :: l => endOf r (r p i).1 l
def RunOk (m : Nat) (r : Step) : Place → List Nat → Prop
  | _, [] => True
  | p, i :: l => i < m ∧ (r p i).2.2 = 0 ∧ RunOk m r (r p i).1 l
/-- a run that comes to a station, and was not there before. -/
def Good (m : Nat) (r : Step) (to : Int) : Place → List Nat → Prop
  | p, [] => p.1 = to
  | p, i :: l => p.1 ≠ to ∧ i < m ∧ (r p i).2.2 = 0 ∧ Good m r to (r p i).1 l
def kmOf (n : Nt) : List Nat → Int
  | [] => 0
  | i :: l => (n.tracks.getD i default).km + kmOf n l
def chOf (r : Step) : Place → List Nat → Int
  | _, [] => 0
  | p, i :: l => (if (r p i).2.1 then 1 else 0) + chOf r (r p i).1 l
def ints (l : List Nat) : List Int := l.map fun i : Nat => (i : Int)

theorem visits_head (r : Step) (p : Place) (l : List Nat) : p ∈ visits r p l := by cases l <;> simp [visits]
theorem visits_length (r : Step) : ∀ (l : List Nat) (p : Place), (visits r p l).length = l.length + 1
  | [], p => rfl
  | i :: l, p => by rw [visits, List.length_cons, visits_length r l, List.length_cons]

theorem dfs_mem (n : Nt) (r : Step) (to : Int) : ∀ (f : Nat) (met : List Place) (p : Place) (t t' : Trip), p ∉ met →
    (t' ∈ dfs n r to f met p t ↔ ∃ l : List Nat, l.length < f ∧ Good n.tracks.length r to p l ∧ (visits r p l).Nodup ∧ (∀ x ∈ visits r p l, x ∉ met) ∧ t' = ⟨t.way ++ ints l, t.km + kmOf n l, t.changes + chOf r p l⟩)
  | 0, met, p, t, t', hp => by
    constructor
    · intro h; simp [dfs] at h
    · rintro ⟨l, h, _⟩; omega
  | f + 1, met, p, t, t', hp => by
    rw [dfs]
    by_cases hto : p.1 = to
    · rw [if_pos hto]
      constructor
      · intro h
        have h := List.mem_singleton.1 h
        subst h
        exact ⟨[], by simp, hto, by simp [visits], by simpa [visits] using hp, by simp [ints, kmOf, chOf]⟩
      · rintro ⟨l, _, hg, _, _, rfl⟩
        cases l with
        | nil => simp [ints, kmOf, chOf]
        | cons i l => exact absurd hto hg.1
    · rw [if_neg hto, List.mem_flatMap]
      constructor
      · rintro ⟨i, hi, h⟩
        have hi := List.mem_range.1 hi
        split at h
        · simp at h
        · rename_i hc
          have hc1 : (r p i).2.2 = 0 := Decidable.byContradiction fun e => hc (.inl e)
          have hc2 : (r p i).1 ∉ met ++ [p] := fun e => hc (.inr e)
          obtain ⟨l, h1, h2, h3, h4, rfl⟩ := (dfs_mem n r to f (met ++ [p]) (r p i).1 _ t' hc2).1 h
          refine ⟨i :: l, by simp; omega, ⟨hto, hi, hc1, h2⟩, ?_, ?_, ?_⟩
          · rw [visits, List.nodup_cons]
            exact ⟨fun e => h4 p e (by simp), h3⟩
          · intro x hx
            rw [visits] at hx
            rcases List.mem_cons.1 hx with rfl | hx
            · exact hp
            · exact fun e => h4 x hx (by simp [e])
          · simp [ints, kmOf, chOf, Int.add_assoc]
      · rintro ⟨l, h1, h2, h3, h4, rfl⟩
        cases l with
        | nil => exact absurd h2 hto
        | cons i l =>
          obtain ⟨_, hi, hz, h2⟩ := h2
          rw [visits, List.nodup_cons] at h3
          refine ⟨i, List.mem_range.2 hi, ?_⟩
          have hv := visits_head r (r p i).1 l
          have hnm : (r p i).1 ∉ met ++ [p] := by
            intro e
            rcases List.mem_append.1 e with e | e
            · exact h4 _ (by rw [visits]; exact List.mem_cons_of_mem _ hv) e
            · exact h3.1 (Eq.subst (motive := fun z => z ∈ visits r (r p i).1 l) (List.mem_singleton.1 e) hv)
          rw [if_neg (fun e => e.elim (fun e => e hz) hnm)]
          refine (dfs_mem n r to f (met ++ [p]) (r p i).1 _ _ hnm).2 ⟨l, by simp at h1; omega, h2, h3.2, fun x hx e => ?_, by simp [ints, kmOf, chOf, Int.add_assoc]⟩
          rcases List.mem_append.1 e with e | e
          · exact h4 x (by rw [visits]; exact List.mem_cons_of_mem _ hx) e
          · exact h3.1 (Eq.subst (motive := fun z => z ∈ visits r (r p i).1 l) (List.mem_singleton.1 e) hx)

theorem good_run {m : Nat} {r : Step} {to : Int} : ∀ {l : List Nat} {p : Place}, Good m r to p l → RunOk m r p l ∧ (endOf r p l).1 = to
  | [], _, h => ⟨trivial, h⟩
  | _ :: _, _, h => ⟨⟨h.2.1, h.2.2.1, (good_run h.2.2.2).1⟩, (good_run h.2.2.2).2⟩
theorem visits_gets {m : Nat} {r : Step} {p0 : Place} : ∀ {l : List Nat} {p : Place}, Gets r m p0 p → RunOk m r p l → ∀ x ∈ visits r p l, Gets r m p0 x
  | [], p, hg, _, x, hx => by
    obtain rfl := List.mem_singleton.1 (show x ∈ [p] from hx)
    exact hg
  | i :: l, p, hg, h, x, hx => by
    rw [visits] at hx
    rcases List.mem_cons.1 hx with rfl | hx
    · exact hg
    · exact visits_gets (hg.step h.1 h.2.1) h.2.2 x hx
theorem run_append {m : Nat} {r : Step} : ∀ (l k : List Nat) (p : Place), RunOk m r p (l ++ k) ↔ RunOk m r p l ∧ RunOk m r (endOf r p l) k
  | [], k, p => by simp [RunOk, endOf]
  | i :: l, k, p => by simp only [List.cons_append, RunOk, endOf, run_append l k, and_assoc]
theorem end_append {r : Step} : ∀ (l k : List Nat) (p : Place), endOf r p (l ++ k) = endOf r (endOf r p l) k
  | [], k, p => rfl
  | i :: l, k, p => by simp only [List.cons_append, endOf, end_append l k]
theorem ch_append {r : Step} : ∀ (l k : List Nat) (p : Place), chOf r p (l ++ k) = chOf r p l + chOf r (endOf r p l) k
  | [], k, p => by simp [chOf, endOf]
  | i :: l, k, p => by simp only [List.cons_append, chOf, endOf, ch_append l k]; omega
theorem km_append {n : Nt} : ∀ (l k : List Nat), kmOf n (l ++ k) = kmOf n l + kmOf n k
  | [], k => by simp [kmOf]
  | i :: l, k => by simp only [List.cons_append, kmOf, km_append l k]; omega
theorem km_reverse {n : Nt} : ∀ (l : List Nat), kmOf n l.reverse = kmOf n l
  | [] => rfl
  | i :: l => by rw [List.reverse_cons, km_append, km_reverse l]; simp only [kmOf]; omega
theorem gets_run {m : Nat} {r : Step} {p x : Place} (h : Gets r m p x) : ∃ l, RunOk m r p l ∧ endOf r p l = x := by
  induction h with
  | refl => exact ⟨[], trivial, rfl⟩
  | @step x i _ hi hz ih =>
    obtain ⟨l, h1, h2⟩ := ih
    exact ⟨l ++ [i], (run_append l [i] p).2 ⟨h1, by rw [h2]; exact ⟨hi, hz, trivial⟩⟩, by rw [end_append, h2]; rfl⟩
theorem run_gets {m : Nat} {r : Step} {p : Place} {l : List Nat} (h : RunOk m r p l) : Gets r m p (endOf r p l) := by
  have : ∀ (l : List Nat) (q : Place), endOf r q l ∈ visits r q l := by
    intro l
    induction l with
    | nil => intro q; simp [visits, endOf]
    | cons i l ih => intro q; rw [visits, endOf]; exact List.mem_cons_of_mem _ (ih _)
  exact visits_gets .refl h _ (this l p)

section
variable {n : Nt} {r : Step} {to : Int}
theorem km_nonneg (hk : ∀ i, i < n.tracks.length → 0 ≤ (n.tracks.getD i default).km) : ∀ {l : List Nat} {p : Place}, RunOk n.tracks.length r p l → 0 ≤ kmOf n l
  | [], _, _ => Int.le_refl _
  | i :: l, p, h => by
    have h1 := hk i h.1
    have h2 := km_nonneg hk h.2.2
    simp only [kmOf]; omega
theorem good_suffix (hk : ∀ i, i < n.tracks.length → 0 ≤ (n.tracks.getD i default).km) : ∀ (k : List Nat) (q : Place), Good n.tracks.length r to q k → (visits r q k).Nodup → ∀ p ∈ visits r q k,
    ∃ k2, Good n.tracks.length r to p k2 ∧ (visits r p k2).Nodup ∧ kmOf n k2 ≤ kmOf n k
  | [], q, h, hn, p, hp => by
    obtain rfl := List.mem_singleton.1 (show p ∈ [q] from hp)
    exact ⟨[], h, hn, Int.le_refl _⟩
  | i :: k, q, h, hn, p, hp => by
    rw [visits] at hp
    rcases List.mem_cons.1 hp with rfl | hp
    · exact ⟨i :: k, h, hn, Int.le_refl _⟩
    · obtain ⟨h0, hi, hz, h1⟩ := h
      rw [visits, List.nodup_cons] at hn
      obtain ⟨k2, g1, g2, g3⟩ := good_suffix hk k (r q i).1 h1 hn.2 p hp
      exact ⟨k2, g1, g2, by have := hk i hi; simp only [kmOf]; omega⟩
/-- A run that comes somewhere does so without a place that it comes to again, over no more kilometres. -/
theorem good_of_run (hk : ∀ i, i < n.tracks.length → 0 ≤ (n.tracks.getD i default).km) : ∀ (l : List Nat) (p : Place), RunOk n.tracks.length r p l → (endOf r p l).1 = to →
    ∃ k, Good n.tracks.length r to p k ∧ (visits r p k).Nodup ∧ kmOf n k ≤ kmOf n l
  | [], p, _, he => ⟨[], he, by simp [visits], Int.le_refl _⟩
  | i :: l, p, h, he => by
    by_cases hto : p.1 = to
    · exact ⟨[], hto, by simp [visits], km_nonneg hk h⟩
    · obtain ⟨hi, hz, h⟩ := h
      obtain ⟨k, h1, h2, h3⟩ := good_of_run hk l (r p i).1 h he
      by_cases hv : p ∈ visits r (r p i).1 k
      · obtain ⟨k2, g1, g2, g3⟩ := good_suffix hk k (r p i).1 h1 h2 p hv
        exact ⟨k2, g1, g2, by have := hk i hi; simp only [kmOf]; omega⟩
      · exact ⟨i :: k, ⟨hto, hi, hz, h1⟩, by rw [visits, List.nodup_cons]; exact ⟨hv, h2⟩, by simp only [kmOf]; omega⟩
end

theorem better_km {s t : Trip} : (better s t = true → s.km ≤ t.km) ∧ (better s t = false → t.km ≤ s.km) := by
  unfold better
  by_cases h : s.km = t.km
  · rw [if_neg (by simpa using h)]; exact ⟨fun _ => by omega, fun _ => by omega⟩
  · rw [if_pos h]
    exact ⟨fun h => by have := of_decide_eq_true h; omega, fun h => by have := of_decide_eq_false h; omega⟩
theorem leastFrom_mem : ∀ (l : List Trip) (b : Option Trip) (t : Trip), leastFrom b l = some t → b = some t ∨ t ∈ l
  | [], b, t, h => .inl (by cases b <;> exact h)
  | x :: l, none, t, h => by
    rcases leastFrom_mem l (some x) t h with h | h
    · injection h with h; subst h; exact .inr (by simp)
    · exact .inr (by simp [h])
  | x :: l, some b, t, h => by
    rcases leastFrom_mem l _ t h with h | h
    · injection h with h
      split at h
      · subst h; exact .inr (by simp)
      · subst h; exact .inl rfl
    · exact .inr (by simp [h])
theorem leastFrom_some : ∀ (l : List Trip) (b : Trip), ∃ t, leastFrom (some b) l = some t
  | [], b => ⟨b, rfl⟩
  | _ :: l, _ => leastFrom_some l _
theorem leastFrom_km : ∀ (l : List Trip) (b : Option Trip) (t : Trip), leastFrom b l = some t → (∀ s, b = some s → t.km ≤ s.km) ∧ ∀ s ∈ l, t.km ≤ s.km
  | [], b, t, h => by
    refine ⟨fun s hs => ?_, by simp⟩
    subst hs
    have : s = t := by injection h
    subst this
    exact Int.le_refl _
  | x :: l, none, t, h => by
    have ih := leastFrom_km l (some x) t h
    refine ⟨(fun s hs => by cases hs), fun s hs => ?_⟩
    rcases List.mem_cons.1 hs with rfl | hs
    · exact ih.1 _ rfl
    · exact ih.2 s hs
  | x :: l, some b, t, h => by
    have ih := leastFrom_km l _ t h
    have h0 := ih.1 _ rfl
    have hb : t.km ≤ b.km ∧ t.km ≤ x.km := by
      cases hx : better x b
      · have := better_km.2 hx
        rw [hx] at h0
        simp only [Bool.false_eq_true, if_false] at h0
        omega
      · have := better_km.1 hx
        rw [hx] at h0
        simp only [if_true] at h0
        omega
    refine ⟨(fun s hs => by injection hs with hs; subst hs; exact hb.1), fun s hs => ?_⟩
    rcases List.mem_cons.1 hs with rfl | hs
    · exact hb.2
    · exact ih.2 s hs

theorem found_iff (n : Nt) (c : Cch) (fr g to : Int) (t : Trip) : t ∈ found n c fr g to ↔ ∃ l : List Nat, l.length < 30 ∧ Good n.tracks.length (run n c []) to (fr, g) l ∧ (visits (run n c []) (fr, g) l).Nodup ∧ t = ⟨ints l, kmOf n l, chOf (run n c []) (fr, g) l⟩ := by
  rw [found, dfs_mem _ _ _ _ _ _ _ _ (by simp)]
  simp
/-- What Way finds: a run. -/
theorem way_run {n : Nt} {c : Cch} {fr g to : Int} {t : Trip} (h : way n c fr g to = some t) :
    ∃ l : List Nat, l.length < 30 ∧ RunOk n.tracks.length (run n c []) (fr, g) l ∧ (endOf (run n c []) (fr, g) l).1 = to ∧ t.way = ints l ∧ t.km = kmOf n l ∧ t.changes = chOf (run n c []) (fr, g) l := by
  rcases leastFrom_mem _ _ _ h with h | h
  · cases h
  · obtain ⟨l, h0, h1, _, rfl⟩ := (found_iff n c fr g to t).1 h
    exact ⟨l, h0, (good_run h1).1, (good_run h1).2, rfl, rfl, rfl⟩
/-- Way's kilometres are no more than those of any run. -/
theorem way_le {n : Nt} {c : Cch} {fr g to : Int} (U : List Place) (hU : ∀ x, Gets (run n c []) n.tracks.length (fr, g) x → x ∈ U) (hUl : U.length ≤ 24) (hk : ∀ i, i < n.tracks.length → 0 ≤ (n.tracks.getD i default).km)
    {l : List Nat} (h : RunOk n.tracks.length (run n c []) (fr, g) l) (he : (endOf (run n c []) (fr, g) l).1 = to) : ∃ t, way n c fr g to = some t ∧ t.km ≤ kmOf n l := by
  obtain ⟨k, h1, h2, h3⟩ := good_of_run hk l (fr, g) h he
  have hl : (visits (run n c []) (fr, g) k).length ≤ U.length := length_le_of_nodup_subset _ U h2 (fun x hx => hU x (visits_gets .refl (good_run h1).1 x hx))
  rw [visits_length] at hl
  have hm := (found_iff n c fr g to _).2 ⟨k, by omega, h1, h2, rfl⟩
  unfold way
  cases hf : found n c fr g to with
  | nil => rw [hf] at hm; simp at hm
  | cons x L =>
    obtain ⟨t, ht⟩ := leastFrom_some L x
    refine ⟨t, ht, ?_⟩
    have := (leastFrom_km (x :: L) none t ht).2 _ (by rw [← hf]; exact hm)
    simp only at this
    omega
theorem way_comes {n : Nt} {c : Cch} {fr g to : Int} (U : List Place) (hU : ∀ x, Gets (run n c []) n.tracks.length (fr, g) x → x ∈ U) (hUl : U.length ≤ 24) (hk : ∀ i, i < n.tracks.length → 0 ≤ (n.tracks.getD i default).km) :
    (∃ t, way n c fr g to = some t) ↔ ∃ x, Gets (run n c []) n.tracks.length (fr, g) x ∧ x.1 = to := by
  constructor
  · rintro ⟨t, h⟩
    obtain ⟨l, _, h1, h2, _⟩ := way_run h
    exact ⟨_, run_gets h1, h2⟩
  · rintro ⟨x, h1, h2⟩
    obtain ⟨l, h3, h4⟩ := gets_run h1
    obtain ⟨t, ht, _⟩ := way_le (to := to) U hU hUl hk h3 (by rw [h4]; exact h2)
    exact ⟨t, ht⟩

/-- along a run nothing bars. -/
theorem along_run {n : Nt} {c : Cch} : ∀ (l : List Nat) (p : Place) (i ch : Int), RunOk n.tracks.length (run n c []) p l → along n c p (ints l) i ch = (ch + chOf (run n c []) p l, -1, 0)
  | [], p, i, ch, _ => by simp [ints, along, chOf]
  | k :: l, p, i, ch, h => by
    obtain ⟨_, hz, h⟩ := h
    have ih := along_run l (run n c [] p k).1 (i + 1) (ch + if (run n c [] p k).2.1 then 1 else 0) h
    simp only [ints, List.map_cons, along, Int.toNat_natCast, chOf] at ih ⊢
    rw [if_neg (by simp [hz]), ih]
    simp only [Int.add_assoc]

/-! how many ways there are -/
def okAt (m : Nat) (r : Step) (p : Place) : Nat := (List.range m).countP fun i => decide ((r p i).2.2 = 0)
def capAt (m : Nat) (r : Step) (p : Place) : Nat := max 1 (okAt m r p)
def prodOf (m : Nat) (r : Step) : List Place → Nat
  | [] => 1
  | p :: l => capAt m r p * prodOf m r l
theorem capAt_pos (m : Nat) (r : Step) (p : Place) : 1 ≤ capAt m r p := Nat.le_max_left _ _
theorem prodOf_pos (m : Nat) (r : Step) : ∀ l, 1 ≤ prodOf m r l
  | [] => Nat.le_refl _
  | p :: l => Nat.mul_le_mul (capAt_pos m r p) (prodOf_pos m r l)
theorem flat_le {α : Type} (ok : Nat → Bool) (g : Nat → List α) (B : Nat) : ∀ l : List Nat, (∀ i ∈ l, ok i = false → g i = []) → (∀ i ∈ l, ok i = true → (g i).length ≤ B) → (l.flatMap g).length ≤ l.countP ok * B
  | [], _, _ => by simp
  | i :: l, h0, h1 => by
    have ih := flat_le ok g B l (fun j hj => h0 j (by simp [hj])) (fun j hj => h1 j (by simp [hj]))
    rw [List.flatMap_cons, List.length_append, List.countP_cons]
    cases hi : ok i
    · rw [h0 i (by simp) hi]
      simpa using ih
    · have := h1 i (by simp) hi
      simp only [if_true, Nat.add_mul, Nat.one_mul]
      omega
theorem prod_same (m : Nat) (r : Step) {met : List Place} {p : Place} : ∀ U : List Place, p ∉ U → prodOf m r (U.filter fun x => decide (x ∉ met ++ [p])) = prodOf m r (U.filter fun x => decide (x ∉ met))
  | [], _ => rfl
  | u :: U, h => by
    have hu : u ≠ p := fun e => h (by simp [e])
    have ih := prod_same m r (met := met) (p := p) U (fun e => h (by simp [e]))
    have e : decide (u ∉ met ++ [p]) = decide (u ∉ met) := by simp [hu]
    rw [List.filter_cons, List.filter_cons, e]
    split
    · simp only [prodOf, ih]
    · exact ih
theorem prod_take (m : Nat) (r : Step) {met : List Place} {p : Place} (hp : p ∉ met) : ∀ U : List Place, U.Nodup → p ∈ U →
    prodOf m r (U.filter fun x => decide (x ∉ met)) = capAt m r p * prodOf m r (U.filter fun x => decide (x ∉ met ++ [p]))
  | [], _, h => by simp at h
  | u :: U, hn, hm => by
    have hn := List.nodup_cons.1 hn
    rw [List.filter_cons, List.filter_cons]
    by_cases hu : u = p
    · subst hu
      rw [if_pos (by simpa using hp), if_neg (by simp), prodOf, prod_same m r U hn.1]
    · have hm : p ∈ U := by
        rcases List.mem_cons.1 hm with h | h
        · exact absurd h.symm hu
        · exact h
      have ih := prod_take m r hp U hn.2 hm
      have e : decide (u ∉ met ++ [p]) = decide (u ∉ met) := by simp [hu]
      rw [e]
      split
      · simp only [prodOf, ih, Nat.mul_left_comm]
      · exact ih
theorem dfs_length {n : Nt} {r : Step} {to : Int} (U : List Place) (hU : U.Nodup) (hs : ∀ x ∈ U, ∀ i, i < n.tracks.length → (r x i).2.2 = 0 → (r x i).1 ∈ U) :
    ∀ (f : Nat) (met : List Place) (p : Place) (t : Trip), p ∈ U → p ∉ met → (dfs n r to f met p t).length ≤ prodOf n.tracks.length r (U.filter fun x => decide (x ∉ met))
  | 0, met, p, t, _, _ => by simp [dfs]
  | f + 1, met, p, t, hpU, hp => by
    rw [dfs]
    by_cases hto : p.1 = to
    · rw [if_pos hto]
      exact prodOf_pos _ _ _
    · rw [if_neg hto, prod_take _ r hp U hU hpU]
      refine Nat.le_trans (flat_le (fun i => decide ((r p i).2.2 = 0)) _ (prodOf n.tracks.length r (U.filter fun x => decide (x ∉ met ++ [p]))) _ ?_ ?_) (Nat.mul_le_mul_right _ (Nat.le_max_right _ _))
      · intro i _ hi
        rw [if_pos (.inl (of_decide_eq_false hi))]
      · intro i hi hz
        split
        · simp
        · rename_i hc
          exact dfs_length U hU hs f _ _ _ (hs p hpU i (List.mem_range.1 hi) (of_decide_eq_true hz)) (fun e => hc (.inr e))

/-- how many lines end at a station. -/
def degAt (n : Nt) (s : Int) (m : Nat) : Nat := (List.range m).countP fun i => decide ((n.tracks.getD i default).a = s ∨ (n.tracks.getD i default).b = s)
theorem degAt_le (n : Nt) (s : Int) (m : Nat) : degAt n s m ≤ m := by
  have := List.countP_le_length (p := fun i => decide ((n.tracks.getD i default).a = s ∨ (n.tracks.getD i default).b = s)) (l := List.range m)
  simpa [degAt] using this
theorem degAt_succ (n : Nt) (s : Int) (m : Nat) : degAt n s (m + 1) = degAt n s m + if (n.tracks.getD m default).a = s ∨ (n.tracks.getD m default).b = s then 1 else 0 := by
  simp only [degAt, List.range_succ, List.countP_append, List.countP_cons, List.countP_nil, Nat.zero_add, decide_eq_true_eq]
theorem one_of (a : Int) : (if a = 0 then 1 else 0) + (if a = 1 then 1 else 0) + (if a = 2 then 1 else 0) + (if a = 3 then 1 else 0) + (if a = 4 then 1 else 0) + (if a = 5 then 1 else 0) ≤ 1 := by
  by_cases h0 : a = 0
  · subst h0; decide
  by_cases h1 : a = 1
  · subst h1; decide
  by_cases h2 : a = 2
  · subst h2; decide
  by_cases h3 : a = 3
  · subst h3; decide
  by_cases h4 : a = 4
  · subst h4; decide
  rw [if_neg h0, if_neg h1, if_neg h2, if_neg h3, if_neg h4]
  split <;> omega
theorem ite_or (p q : Prop) [Decidable p] [Decidable q] : (if p ∨ q then 1 else 0) ≤ (if p then 1 else 0) + (if q then 1 else 0) := by
  by_cases hp : p <;> by_cases hq : q <;> simp [hp, hq]
theorem deg_sum (n : Nt) : ∀ m : Nat, degAt n 0 m + degAt n 1 m + degAt n 2 m + degAt n 3 m + degAt n 4 m + degAt n 5 m ≤ 2 * m
  | 0 => by simp [degAt]
  | m + 1 => by
    have ih := deg_sum n m
    have ha := one_of (n.tracks.getD m default).a
    have hb := one_of (n.tracks.getD m default).b
    have e := fun s : Int => ite_or ((n.tracks.getD m default).a = s) ((n.tracks.getD m default).b = s)
    have e0 := e 0; have e1 := e 1; have e2 := e 2; have e3 := e 3; have e4 := e 4; have e5 := e 5
    simp only [degAt_succ]
    omega
theorem pow_fits : ∀ d : Nat, d ≤ 8 → (max 1 d) * ((max 1 d) * ((max 1 d) * (max 1 d))) ≤ 5 ^ d := by decide
theorem prodOf_append (m : Nat) (r : Step) : ∀ l k, prodOf m r (l ++ k) = prodOf m r l * prodOf m r k
  | [], k => by simp [prodOf]
  | p :: l, k => by simp only [List.cons_append, prodOf, prodOf_append m r l k, Nat.mul_assoc]
theorem run_ends {n : Nt} {c : Cch} {reb : List Int} {p : Place} {k : Nat} (h : (run n c reb p k).2.2 = 0) : (n.tracks.getD k default).a = p.1 ∨ (n.tracks.getD k default).b = p.1 := by
  unfold run runT at h
  by_cases h1 : p.1 = (n.tracks.getD k default).a
  · exact .inl h1.symm
  · by_cases h2 : p.1 = (n.tracks.getD k default).b
    · exact .inr h2.symm
    · rw [if_neg h1, if_neg h2] at h
      simp at h
theorem cap_le (n : Nt) (c : Cch) (m : Nat) (s g : Int) : capAt m (run n c []) (s, g) ≤ max 1 (degAt n s m) := by
  have : okAt m (run n c []) (s, g) ≤ degAt n s m := List.countP_mono_left fun i _ h => by
    have h := of_decide_eq_true h
    have := run_ends h
    simpa using this
  unfold capAt
  omega
def blockAt (s : Int) : List Place := [(s, 0), (s, 1), (s, 2), (s, 3)]
theorem block_le (n : Nt) (c : Cch) (m : Nat) (hm : m ≤ 8) (s : Int) : prodOf m (run n c []) (blockAt s) ≤ 5 ^ degAt n s m := by
  refine Nat.le_trans ?_ (pow_fits _ (Nat.le_trans (degAt_le n s m) hm))
  simp only [blockAt, prodOf, Nat.mul_one]
  exact Nat.mul_le_mul (cap_le n c m s 0) (Nat.mul_le_mul (cap_le n c m s 1) (Nat.mul_le_mul (cap_le n c m s 2) (cap_le n c m s 3)))
theorem prod_places (n : Nt) (c : Cch) (m : Nat) (hm : m ≤ 8) : prodOf m (run n c []) (blockAt 0 ++ (blockAt 1 ++ (blockAt 2 ++ (blockAt 3 ++ (blockAt 4 ++ blockAt 5))))) ≤ 5 ^ 16 := by
  simp only [prodOf_append]
  have hb := block_le n c m hm
  have h := Nat.mul_le_mul (hb 0) (Nat.mul_le_mul (hb 1) (Nat.mul_le_mul (hb 2) (Nat.mul_le_mul (hb 3) (Nat.mul_le_mul (hb 4) (hb 5)))))
  refine Nat.le_trans h ?_
  simp only [← Nat.pow_add]
  refine Nat.pow_le_pow_right (by omega) ?_
  have := deg_sum n m
  omega
theorem found_le {n : Nt} {c : Cch} {fr g to : Int} (hs : ∀ x ∈ blockAt 0 ++ (blockAt 1 ++ (blockAt 2 ++ (blockAt 3 ++ (blockAt 4 ++ blockAt 5)))), ∀ i, i < n.tracks.length → (run n c [] x i).2.2 = 0 → (run n c [] x i).1 ∈ blockAt 0 ++ (blockAt 1 ++ (blockAt 2 ++ (blockAt 3 ++ (blockAt 4 ++ blockAt 5)))))
    (hp : (fr, g) ∈ blockAt 0 ++ (blockAt 1 ++ (blockAt 2 ++ (blockAt 3 ++ (blockAt 4 ++ blockAt 5))))) (hm : n.tracks.length ≤ 8) : (found n c fr g to).length ≤ 5 ^ 16 := by
  have h := dfs_length (n := n) (r := run n c []) (to := to) _ (by decide) hs 30 [] (fr, g) ⟨[], 0, 0⟩ hp (by simp)
  refine Nat.le_trans h ?_
  rw [List.filter_eq_self.2 (by simp)]
  exact prod_places n c _ hm

/-! a run turned about -/
theorem run_fine {n : Nt} {c : Cch} {p : Place} {k : Nat} (h : (run n c [] p k).2.2 = 0) :
    barred c (n.tracks.getD k default) = [] ∧ (p.1 = (n.tracks.getD k default).a ∨ p.1 = (n.tracks.getD k default).b) ∧ ((n.tracks.getD k default).gauge ≠ p.2 → p.1 ∈ n.shops) ∧
    (run n c [] p k).1 = ((if p.1 = (n.tracks.getD k default).a then (n.tracks.getD k default).b else (n.tracks.getD k default).a), (n.tracks.getD k default).gauge) ∧ (run n c [] p k).2.1 = decide ((n.tracks.getD k default).gauge ≠ p.2) := by
  have hne : ∀ b l, barred c (n.tracks.getD k default) = b :: l → b ≠ 0 := fun b l hb => by
    have hm : b ∈ barred c (n.tracks.getD k default) := by rw [hb]; simp
    unfold barred at hm
    simp only [List.mem_append] at hm
    rcases hm with ((((hm | hm) | hm) | hm) | hm) | hm <;> (split at hm <;> simp at hm <;> omega)
  unfold run runT runTo at h ⊢
  simp only [List.not_mem_nil, decide_false, Bool.false_eq_true, if_false] at h ⊢
  by_cases h1 : p.1 = (n.tracks.getD k default).a
  · simp only [if_pos h1] at h ⊢
    cases hb : barred c (n.tracks.getD k default) with
    | nil =>
      rw [hb] at h
      simp only at h ⊢
      split at h
      · simp at h
      · rename_i h2
        rw [if_neg h2]
        refine ⟨trivial, .inl h1, fun e => Decidable.byContradiction fun e2 => h2 ⟨e, e2⟩, rfl, rfl⟩
    | cons b l => rw [hb] at h; exact absurd h (hne b l hb)
  · simp only [if_neg h1] at h ⊢
    by_cases h2 : p.1 = (n.tracks.getD k default).b
    · simp only [if_pos h2] at h ⊢
      cases hb : barred c (n.tracks.getD k default) with
      | nil =>
        rw [hb] at h
        simp only at h ⊢
        split at h
        · simp at h
        · rename_i h3
          rw [if_neg h3]
          exact ⟨trivial, .inr h2, fun e => Decidable.byContradiction fun e2 => h3 ⟨e, e2⟩, rfl, rfl⟩
      | cons b l => rw [hb] at h; exact absurd h (hne b l hb)
    · rw [if_neg h2] at h
      simp at h
/-- a line that is open, from one of its ends. -/
theorem run_make {n : Nt} {c : Cch} {p : Place} {k : Nat} (hb : barred c (n.tracks.getD k default) = []) (he : p.1 = (n.tracks.getD k default).a ∨ p.1 = (n.tracks.getD k default).b) (hs : (n.tracks.getD k default).gauge ≠ p.2 → p.1 ∈ n.shops) :
    (run n c [] p k).2.2 = 0 := by
  have hs' : ¬ ((n.tracks.getD k default).gauge ≠ p.2 ∧ p.1 ∉ n.shops) := fun h => h.2 (hs h.1)
  unfold run runT runTo
  simp only [List.not_mem_nil, decide_false, Bool.false_eq_true, if_false, hb]
  by_cases h1 : p.1 = (n.tracks.getD k default).a
  · rw [if_pos h1, if_neg hs']
  · have h2 : p.1 = (n.tracks.getD k default).b := he.resolve_left h1
    rw [if_neg h1, if_pos h2, if_neg hs']
end Go.Proofs.YtpbjpochjagicaaGreatDoorRR.Pl

namespace Go.Proofs.YtpbjpochjagicaaGreatDoorRR.Pl

def below (l : List Int) (x : Int) : Nat := (l.filter fun y => decide (y < x)).length
theorem below_le (l : List Int) (x : Int) : below l x ≤ l.length := List.length_filter_le _ _
theorem below_none : ∀ (l : List Int) (x : Int), (∀ y ∈ l, x ≤ y) → below l x = 0
  | [], _, _ => rfl
  | y :: l, x, h => by
    have h0 := h y (by simp)
    have ih := below_none l x (fun z hz => h z (by simp [hz]))
    unfold below at ih ⊢
    rw [List.filter_cons, if_neg (by simp; omega)]
    exact ih
theorem below_all : ∀ (l : List Int) (x : Int), (∀ y ∈ l, y < x) → below l x = l.length
  | [], _, _ => rfl
  | y :: l, x, h => by
    have h0 := h y (by simp)
    have ih := below_all l x (fun z hz => h z (by simp [hz]))
    unfold below at ih ⊢
    rw [List.filter_cons, if_pos (by simpa using h0)]
    simp [ih]
theorem below_at : ∀ {l : List Int} {x : Int}, l.Pairwise (· < ·) → x ∈ l → l[below l x]? = some x
  | y :: l, x, h, hx => by
    obtain ⟨h1, h2⟩ := List.pairwise_cons.1 h
    unfold below
    rcases List.mem_cons.1 hx with rfl | hx
    · have e := below_none l x (fun z hz => by have := h1 z hz; omega)
      unfold below at e
      rw [List.filter_cons, if_neg (by simp), e]
      rfl
    · have := h1 x hx
      have ih := below_at h2 hx
      unfold below at ih
      rw [List.filter_cons, if_pos (by simpa using this)]
      simpa using ih
theorem below_succ_in : ∀ {l : List Int} {x : Int}, l.Pairwise (· < ·) → x ∈ l → below l (x + 1) = below l x + 1
  | y :: l, x, h, hx => by
    obtain ⟨h1, h2⟩ := List.pairwise_cons.1 h
    unfold below
    rcases List.mem_cons.1 hx with rfl | hx
    · have e := below_none l (x + 1) (fun z hz => by have := h1 z hz; omega)
      have e2 := below_none l x (fun z hz => by have := h1 z hz; omega)
      unfold below at e e2
      rw [List.filter_cons, List.filter_cons, if_pos (by simp; omega), if_neg (by simp), List.length_cons, e, e2]
    · have := h1 x hx
      have ih := below_succ_in h2 hx
      unfold below at ih
      rw [List.filter_cons, List.filter_cons, if_pos (by simp; omega), if_pos (by simp; omega), List.length_cons, List.length_cons, ih]
theorem below_succ_out : ∀ {l : List Int} {x : Int}, x ∉ l → below l (x + 1) = below l x
  | [], _, _ => rfl
  | y :: l, x, hx => by
    have h1 : y ≠ x := fun e => hx (by simp [e])
    have ih := below_succ_out (l := l) (x := x) (fun e => hx (by simp [e]))
    unfold below at ih ⊢
    rw [List.filter_cons, List.filter_cons]
    by_cases h : y < x
    · rw [if_pos (by simp; omega), if_pos (by simpa using h), List.length_cons, List.length_cons, ih]
    · rw [if_neg (by simp; omega), if_neg (by simpa using h), ih]

/-- If bogies can be changed everywhere a car comes to both ends of an open line, or to none. -/
theorem both_ends {n : Nt} {c : Cch} {p : Place} {i : Nat} (hi : i < n.tracks.length) (ho : barred c (n.tracks.getD i default) = []) (hne : (n.tracks.getD i default).a ≠ (n.tracks.getD i default).b)
    (ha : (n.tracks.getD i default).a ∈ n.shops) (hb : (n.tracks.getD i default).b ∈ n.shops) :
    (∃ x, Gets (run n c []) n.tracks.length p x ∧ x.1 = (n.tracks.getD i default).a) ↔ ∃ x, Gets (run n c []) n.tracks.length p x ∧ x.1 = (n.tracks.getD i default).b := by
  constructor
  · rintro ⟨x, hx, he⟩
    have hz : (run n c [] x i).2.2 = 0 := run_make ho (.inl he) (fun _ => by rw [he]; exact ha)
    obtain ⟨_, _, _, f4, _⟩ := run_fine hz
    exact ⟨_, hx.step hi hz, by rw [f4, if_pos he]⟩
  · rintro ⟨x, hx, he⟩
    have hz : (run n c [] x i).2.2 = 0 := run_make ho (.inr he) (fun _ => by rw [he]; exact hb)
    obtain ⟨_, _, _, f4, _⟩ := run_fine hz
    exact ⟨_, hx.step hi hz, by rw [f4, if_neg (by rw [he]; exact Ne.symm hne)]⟩

/-- all lines that do not bar a car. -/
def openOf (n : Nt) (c : Cch) : List Int := ((List.range n.tracks.length).filter fun i => decide ((barred c (n.tracks.getD i default)).length = 0)).map fun i : Nat => (i : Int)
theorem mem_openOf {n : Nt} {c : Cch} {x : Int} (h : x ∈ openOf n c) : ∃ i : Nat, x = i ∧ i < n.tracks.length ∧ barred c (n.tracks.getD i default) = [] := by
  unfold openOf at h
  simp only [List.mem_map, List.mem_filter, List.mem_range, decide_eq_true_eq] at h
  obtain ⟨i, ⟨h1, h2⟩, rfl⟩ := h
  exact ⟨i, rfl, h1, List.eq_nil_of_length_eq_zero h2⟩
end Go.Proofs.YtpbjpochjagicaaGreatDoorRR.Pl
