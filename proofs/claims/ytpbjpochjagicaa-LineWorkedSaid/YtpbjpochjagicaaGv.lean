/- Plain laws: cars that are given things, one behind the other; all lists of things. -/
import Derived.Test.YtpbjpochjagicaaW66
import Derived.Test.YtpbjpochjagicaaW27
namespace Go.Proofs.Ytpbjpochjagicaa
open Go.RowKit

theorem ins_lt : ∀ {l : List Int} {n : Int}, l.Pairwise (· < ·) → n ∉ l → (Pl.insert n l).Pairwise (· < ·)
  | [], n, _, _ => by simp [Pl.insert]
  | x :: l, n, h, hn => by
    have hc := List.pairwise_cons.1 h
    simp only [List.mem_cons, not_or] at hn
    rw [Pl.insert]
    split
    · next hx =>
      refine List.pairwise_cons.2 ⟨fun y hy => ?_, h⟩
      rcases List.mem_cons.1 hy with rfl | hy
      · exact hx
      · have := hc.1 y hy; omega
    · next hx =>
      refine List.pairwise_cons.2 ⟨fun y hy => ?_, ins_lt hc.2 hn.2⟩
      rcases mem_insert.1 hy with rfl | hy
      · omega
      · exact hc.1 y hy
theorem putL_insert : ∀ {l : List Int} {n : Int}, l.Pairwise (· < ·) → n ∉ l → putL l n = Pl.insert n l
  | [], n, _, _ => by simp [putL, Pl.insert]
  | x :: l, n, h, hn => by
    have hc := List.pairwise_cons.1 h
    simp only [List.mem_cons, not_or] at hn
    rw [Pl.insert]
    split
    · next hx =>
      have e1 : (x :: l).filter (fun y => decide (y < n)) = [] := by
        rw [List.filter_eq_nil_iff]
        intro y hy
        rcases List.mem_cons.1 hy with rfl | hy
        · simp; omega
        · have := hc.1 y hy; simp; omega
      have e2 : (x :: l).filter (fun y => decide (n < y)) = x :: l := by
        rw [List.filter_eq_self]
        intro y hy
        rcases List.mem_cons.1 hy with rfl | hy
        · simp; omega
        · have := hc.1 y hy; simp; omega
      rw [putL, e1, e2]; rfl
    · next hx =>
      have h1 : x < n := by omega
      have h2 : ¬ n < x := by omega
      have := putL_insert hc.2 hn.2
      rw [← this, putL, putL, List.filter_cons, List.filter_cons, if_pos (by simpa using h1), if_neg (by simpa using h2)]
      rfl

/-- A car without an error, list by list. -/
structure FitL (c : Pl.Cch) : Prop where
  ne : c.gauges ≠ []
  g : c.gauges.Pairwise (· < ·)
  gi : ∀ x ∈ c.gauges, 1 ≤ x ∧ x ≤ 3
  s1 : 1 ≤ c.size
  s2 : c.size ≤ 9
  l1 : 1 ≤ c.load
  l2 : c.load ≤ 20
  b : c.brakes.Pairwise (· < ·)
  bi : ∀ x ∈ c.brakes, 1 ≤ x ∧ x ≤ 3
  h : c.heats.Pairwise (· < ·)
  hi : ∀ x ∈ c.heats, 1 ≤ x ∧ x ≤ 3
theorem fitL_of {c : Pl.Cch} (h : Pl.fits c = 0) : FitL c := by
  unfold Pl.fits at h
  split at h
  · cases h
  · next h1 =>
    split at h
    · next h2 => exact absurd h h2
    · next h2 =>
      split at h
      · cases h
      · next h3 =>
        split at h
        · next h4 => exact absurd h h4
        · next h4 =>
          simp only [ne_eq, Decidable.not_not] at h2 h4
          have a := rising_all (oe := 1) (by omega) h2
          have b := rising_all (oe := 1) (by omega) h4
          have d := rising_all (oe := 1) (by omega) h
          simp [Pl.out] at h3
          exact ⟨h1, a.2.1, a.1, by omega, by omega, by omega, by omega, b.2.1, b.1, d.2.1, d.1⟩
theorem rising_ok {l : List Int} (h : l.Pairwise (· < ·)) (hi : ∀ x ∈ l, 1 ≤ x ∧ x ≤ 3) : Pl.rising l 1 3 1 = 0 := rising_from_of 1 3 1 l none h hi (fun p hp => by cases hp)
theorem FitL.fits {c : Pl.Cch} (h : FitL c) : Pl.fits c = 0 := by
  have o1 : Pl.out c.size 1 9 = false := by have := h.s1; have := h.s2; simp [Pl.out]; omega
  have o2 : Pl.out c.load 1 20 = false := by have := h.l1; have := h.l2; simp [Pl.out]; omega
  simp [Pl.fits, h.ne, rising_ok h.g h.gi, rising_ok h.b h.bi, rising_ok h.h h.hi, o1, o2]

/-- Something that a car can be given; whether it has it. -/
def Thing (t : Int) : Prop := (1 ≤ t ∧ t ≤ 3) ∨ (11 ≤ t ∧ t ≤ 13) ∨ (21 ≤ t ∧ t ≤ 23) ∨ t = 30
def HasT (c : Pl.Cch) (t : Int) : Prop := if t = 30 then c.hooks = true else if 20 < t then t - 20 ∈ c.heats else if 10 < t then t - 10 ∈ c.brakes else t ∈ c.gauges
def giveP (c : Pl.Cch) (t : Int) : Pl.Cch :=
  if t = 30 then { c with hooks := true } else if 20 < t then { c with heats := putL c.heats (t - 20) }
  else if 10 < t then { c with brakes := putL c.brakes (t - 10) } else { c with gauges := putL c.gauges t }
def givenP (c : Pl.Cch) (l : List Int) : Pl.Cch := l.foldl giveP c
theorem insert_ne (n : Int) (l : List Int) : Pl.insert n l ≠ [] := by
  intro e
  have := insert_length n l
  rw [e] at this
  simp at this
theorem give_ok {c : Pl.Cch} {t : Int} (hf : FitL c) (ht : Thing t) (hn : ¬ HasT c t) : giveP c t = Pl.give c t ∧ FitL (Pl.give c t) ∧ ∀ s, Thing s → HasT (Pl.give c t) s → HasT c s ∨ s = t := by
  unfold HasT at hn
  unfold giveP Pl.give
  split
  · next h30 =>
    refine ⟨rfl, { hf with }, fun s _ hs => ?_⟩
    unfold HasT at hs ⊢
    by_cases e : s = 30
    · exact .inr (by omega)
    · rw [if_neg e] at hs ⊢; exact .inl hs
  · next h30 =>
    rw [if_neg h30] at hn
    split
    · next h20 =>
      rw [if_pos h20] at hn
      have ht' : 21 ≤ t ∧ t ≤ 23 := by rcases ht with h | h | h | h <;> omega
      refine ⟨by rw [putL_insert hf.h hn], { hf with h := ins_lt hf.h hn, hi := fun x hx => ?_ }, fun s hT hs => ?_⟩
      · rcases mem_insert.1 hx with rfl | hx
        · omega
        · exact hf.hi x hx
      · unfold HasT at hs ⊢
        by_cases e : s = 30
        · rw [if_pos e] at hs ⊢; exact .inl hs
        · rw [if_neg e] at hs ⊢
          by_cases e2 : 20 < s
          · rw [if_pos e2] at hs ⊢
            rcases mem_insert.1 hs with h | h
            · exact .inr (by omega)
            · exact .inl h
          · rw [if_neg e2] at hs ⊢; exact .inl hs
    · next h20 =>
      rw [if_neg h20] at hn
      split
      · next h10 =>
        rw [if_pos h10] at hn
        have ht' : 11 ≤ t ∧ t ≤ 13 := by rcases ht with h | h | h | h <;> omega
        refine ⟨by rw [putL_insert hf.b hn], { hf with b := ins_lt hf.b hn, bi := fun x hx => ?_ }, fun s hT hs => ?_⟩
        · rcases mem_insert.1 hx with rfl | hx
          · omega
          · exact hf.bi x hx
        · unfold HasT at hs ⊢
          by_cases e : s = 30
          · rw [if_pos e] at hs ⊢; exact .inl hs
          · rw [if_neg e] at hs ⊢
            by_cases e2 : 20 < s
            · rw [if_pos e2] at hs ⊢; exact .inl hs
            · rw [if_neg e2] at hs ⊢
              by_cases e3 : 10 < s
              · rw [if_pos e3] at hs ⊢
                rcases mem_insert.1 hs with h | h
                · exact .inr (by omega)
                · exact .inl h
              · rw [if_neg e3] at hs ⊢; exact .inl hs
      · next h10 =>
        rw [if_neg h10] at hn
        have ht' : 1 ≤ t ∧ t ≤ 3 := by rcases ht with h | h | h | h <;> omega
        refine ⟨by rw [putL_insert hf.g hn], { hf with ne := insert_ne _ _, g := ins_lt hf.g hn, gi := fun x hx => ?_ }, fun s hT hs => ?_⟩
        · rcases mem_insert.1 hx with rfl | hx
          · omega
          · exact hf.gi x hx
        · unfold HasT at hs ⊢
          by_cases e : s = 30
          · rw [if_pos e] at hs ⊢; exact .inl hs
          · rw [if_neg e] at hs ⊢
            by_cases e2 : 20 < s
            · rw [if_pos e2] at hs ⊢; exact .inl hs
            · rw [if_neg e2] at hs ⊢
              by_cases e3 : 10 < s
              · rw [if_pos e3] at hs ⊢; exact .inl hs
              · rw [if_neg e3] at hs ⊢
                rcases mem_insert.1 hs with h | h
                · exact .inr h
                · exact .inl h
theorem given_ok : ∀ {l : List Int} {c : Pl.Cch}, FitL c → (∀ t ∈ l, Thing t ∧ ¬ HasT c t) → l.Nodup → givenP c l = Pl.given c l ∧ FitL (Pl.given c l)
  | [], c, hf, _, _ => ⟨rfl, hf⟩
  | t :: l, c, hf, ht, hn => by
    have hc := List.nodup_cons.1 hn
    obtain ⟨h1, h2⟩ := ht t (by simp)
    obtain ⟨e1, e2, e3⟩ := give_ok hf h1 h2
    have := given_ok (l := l) e2 (fun s hs => by
      obtain ⟨k1, k2⟩ := ht s (by simp [hs])
      refine ⟨k1, fun hh => ?_⟩
      rcases e3 s k1 hh with h | rfl
      · exact k2 h
      · exact hc.1 hs) hc.2
    refine ⟨?_, this.2⟩
    show givenP (giveP c t) l = _
    rw [e1]
    exact this.1

theorem missing_thing {c : Pl.Cch} {t : Int} (h : t ∈ Pl.missing c) : Thing t ∧ ¬ HasT c t := by
  simp only [Pl.missing, List.mem_append, List.mem_filter, List.mem_map, List.mem_cons, List.not_mem_nil, or_false, decide_eq_true_eq] at h
  unfold Thing HasT
  rcases h with ((⟨h, hg⟩ | ⟨y, ⟨h, hg⟩, rfl⟩) | ⟨y, ⟨h, hg⟩, rfl⟩) | h
  · refine ⟨by omega, ?_⟩
    rw [if_neg (by omega), if_neg (by omega), if_neg (by omega)]
    exact hg
  · refine ⟨by omega, ?_⟩
    rw [if_neg (by omega), if_neg (by omega), if_pos (by omega), show 10 + y - 10 = y by omega]
    exact hg
  · refine ⟨by omega, ?_⟩
    rw [if_neg (by omega), if_pos (by omega), show 20 + y - 20 = y by omega]
    exact hg
  · cases hh : c.hooks
    · rw [hh] at h
      simp at h
      subst h
      exact ⟨by omega, by simp⟩
    · rw [hh] at h; simp at h
theorem filter_lt3 (p : Int → Bool) : ([1, 2, 3].filter p).Pairwise (fun x y : Int => x < y) := List.Pairwise.filter p (by decide)
theorem missing_asc (c : Pl.Cch) : (Pl.missing c).Pairwise (· < ·) := by
  have m (p : Int → Bool) (x : Int) (h : x ∈ [1, 2, 3].filter p) : 1 ≤ x ∧ x ≤ 3 := by
    have := (List.mem_filter.1 h).1
    simp at this; omega
  unfold Pl.missing
  rw [List.pairwise_append, List.pairwise_append, List.pairwise_append]
  refine ⟨⟨⟨filter_lt3 _, ?_, ?_⟩, ?_, ?_⟩, ?_, ?_⟩
  · rw [List.pairwise_map]; exact (filter_lt3 _).imp (by intros; omega)
  · intro x hx y hy
    obtain ⟨z, hz, rfl⟩ := List.mem_map.1 hy
    have := m _ _ hx; have := m _ _ hz; omega
  · rw [List.pairwise_map]; exact (filter_lt3 _).imp (by intros; omega)
  · intro x hx y hy
    obtain ⟨z, hz, rfl⟩ := List.mem_map.1 hy
    have := m _ _ hz
    rcases List.mem_append.1 hx with hx | hx
    · have := m _ _ hx; omega
    · obtain ⟨u, hu, rfl⟩ := List.mem_map.1 hx
      have := m _ _ hu; omega
  · cases c.hooks <;> simp
  · intro x hx y hy
    have hy30 : y = 30 := by cases hh : c.hooks <;> simp [hh] at hy; exact hy
    rcases List.mem_append.1 hx with hx | hx
    · rcases List.mem_append.1 hx with hx | hx
      · have := m _ _ hx; omega
      · obtain ⟨u, hu, rfl⟩ := List.mem_map.1 hx
        have := m _ _ hu; omega
    · obtain ⟨u, hu, rfl⟩ := List.mem_map.1 hx
      have := m _ _ hu; omega

theorem lists_sub : ∀ {l : List Int} {m : Nat} {k : List Int}, k ∈ Pl.lists l m → k.Sublist l ∧ k.length = m
  | l, 0, k, h => by simp [Pl.lists] at h; subst h; exact ⟨List.nil_sublist _, rfl⟩
  | [], m + 1, k, h => by simp [Pl.lists] at h
  | x :: l, m + 1, k, h => by
    simp only [Pl.lists, List.mem_append, List.mem_map] at h
    rcases h with ⟨j, hj, rfl⟩ | h
    · obtain ⟨h1, h2⟩ := lists_sub hj
      exact ⟨h1.cons_cons x, by simp [h2]⟩
    · obtain ⟨h1, h2⟩ := lists_sub h
      exact ⟨h1.cons x, h2⟩
theorem lists_length : ∀ (l : List Int) (m : Nat), (Pl.lists l m).length ≤ 2 ^ l.length
  | l, 0 => by simp [Pl.lists]; exact Nat.one_le_two_pow
  | [], m + 1 => by simp [Pl.lists]
  | x :: l, m + 1 => by
    have := lists_length l m
    have := lists_length l (m + 1)
    simp only [Pl.lists, List.length_append, List.length_map, List.length_cons, Nat.pow_succ]
    omega
theorem lists_drop {l : List Int} {i : Nat} (h : i < l.length) (m : Nat) : Pl.lists (l.drop i) (m + 1) = (Pl.lists (l.drop (i + 1)) m).map (l[i] :: ·) ++ Pl.lists (l.drop (i + 1)) (m + 1) := by
  rw [List.drop_eq_getElem_cons h, Pl.lists]
/-- A list of things that a car lacks makes a car without an error. -/
theorem given_missing {c : Pl.Cch} {l : List Int} (hf : Pl.fits c = 0) (hl : l.Sublist (Pl.missing c)) : givenP c l = Pl.given c l ∧ Pl.fits (Pl.given c l) = 0 := by
  have := given_ok (fitL_of hf) (fun t ht => missing_thing (hl.subset ht)) (((missing_asc c).sublist hl).imp (by intros; omega))
  exact ⟨this.1, this.2.fits⟩
/-- Where the fewest are looked for: the lists of m things, from number i on. -/
theorem fewest_at {all : List Int} {f : List Int → Bool} {k m i : Nat} (hi : i < (Pl.lists all m).length) (h : ((Pl.lists all m).drop i).find? f = (Pl.lists all m).find? f) (hf : f (Pl.lists all m)[i] = true) :
    Pl.fewestFrom all f (k + 1) m = some (Pl.lists all m)[i] := by
  rw [Pl.fewestFrom, ← h, List.drop_eq_getElem_cons hi, List.find?_cons, hf]
theorem fewest_on {all : List Int} {f : List Int → Bool} {m i : Nat} (hi : i < (Pl.lists all m).length) (h : ((Pl.lists all m).drop i).find? f = (Pl.lists all m).find? f) (hf : f (Pl.lists all m)[i] = false) :
    ((Pl.lists all m).drop (i + 1)).find? f = (Pl.lists all m).find? f := by
  rw [← h, List.drop_eq_getElem_cons hi, List.find?_cons, hf]
theorem fewest_next {all : List Int} {f : List Int → Bool} {k m : Nat} (h : ((Pl.lists all m).drop (Pl.lists all m).length).find? f = (Pl.lists all m).find? f) : Pl.fewestFrom all f (k + 1) m = Pl.fewestFrom all f k (m + 1) := by
  rw [Pl.fewestFrom, ← h, List.drop_length]
  rfl
theorem fewest_at2 {all : List Int} {f : List Int → Bool} {k m i : Nat} (hi : i < (Pl.lists all m).length) : ((Pl.lists all m).drop i).find? f = (Pl.lists all m).find? f → f (Pl.lists all m)[i] = true → Pl.fewestFrom all f (k + 1) m = some (Pl.lists all m)[i] := fewest_at hi
theorem fewest_on2 {all : List Int} {f : List Int → Bool} {m i : Nat} (hi : i < (Pl.lists all m).length) : ((Pl.lists all m).drop i).find? f = (Pl.lists all m).find? f → f (Pl.lists all m)[i] = false → ((Pl.lists all m).drop (i + 1)).find? f = (Pl.lists all m).find? f := fewest_on hi
theorem fewest_next2 {all : List Int} {f : List Int → Bool} {k m : Nat} : ((Pl.lists all m).drop (Pl.lists all m).length).find? f = (Pl.lists all m).find? f → Pl.fewestFrom all f (k + 1) m = Pl.fewestFrom all f k (m + 1) := fewest_next
end Go.Proofs.Ytpbjpochjagicaa
