/- Plain laws: all ways are gone through, and the best one of them (LineShortest): fewer than 20000, and what Way finds. Plain laws: the best trip to each place, made better round by round (the reference's trips). A block of trips (the reference's trips): each a verdict, kilometres, changes and a list of lines. -/
import Derived.Test.YtpbjpochjagicaaGreatWy
import Derived.Test.YtpbjpochjagicaaGreatW67
namespace Go.Proofs.YtpbjpochjagicaaGreat.Pl

/-! the order of trips -/
theorem lex_asymm : ∀ (l k : List Int), lexLess l k = true → lexLess k l = false
  | [], [], h => by simp [lexLess] at h
  | [], _ :: _, _ => by simp [lexLess]
  | _ :: _, [], h => by simp [lexLess] at h
  | x :: l, y :: k, h => by
    rw [lexLess] at h ⊢
    by_cases h1 : x < y
    · rw [if_neg (by omega), if_pos h1]
    · rw [if_neg h1] at h
      by_cases h2 : y < x
      · rw [if_pos h2] at h; cases h
      · rw [if_neg h2] at h
        rw [if_neg h2, if_neg h1]
        exact lex_asymm l k h
theorem lex_total : ∀ (l k : List Int), lexLess l k = false → lexLess k l = false → l = k
  | [], [], _, _ => rfl
  | [], _ :: _, h, _ => by simp [lexLess] at h
  | _ :: _, [], _, h => by simp [lexLess] at h
  | x :: l, y :: k, h, h' => by
    rw [lexLess] at h h'
    by_cases h1 : x < y
    · rw [if_pos h1] at h; cases h
    · by_cases h2 : y < x
      · rw [if_pos h2] at h'; cases h'
      · rw [if_neg h1, if_neg h2] at h
        rw [if_neg h2, if_neg h1] at h'
        have : x = y := by omega
        rw [this, lex_total l k h h']
theorem lex_neg_trans : ∀ (l k j : List Int), lexLess l k = false → lexLess k j = false → lexLess l j = false
  | [], [], j, _, h => h
  | [], _ :: _, _, h, _ => by simp [lexLess] at h
  | _ :: _, [], [], _, _ => by simp [lexLess]
  | _ :: _, [], _ :: _, _, h => by simp [lexLess] at h
  | _ :: _, _ :: _, [], _, _ => by simp [lexLess]
  | x :: l, y :: k, z :: j, h, h' => by
    rw [lexLess] at h h' ⊢
    by_cases h1 : x < y
    · rw [if_pos h1] at h; cases h
    · by_cases h3 : y < z
      · rw [if_pos h3] at h'; cases h'
      · rw [if_neg (by omega)]
        by_cases h4 : z < x
        · rw [if_pos h4]
        · rw [if_neg h4]
          rw [if_neg h1, if_neg (by omega)] at h
          rw [if_neg h3, if_neg (by omega)] at h'
          exact lex_neg_trans l k j h h'
theorem better_asymm {s t : Trip} (h : better s t = true) : better t s = false := by
  unfold better at h ⊢
  by_cases h1 : s.km = t.km
  · rw [if_neg (by simpa using h1)] at h
    rw [if_neg (by simpa using h1.symm)]
    by_cases h2 : s.changes = t.changes
    · rw [if_neg (by simpa using h2)] at h
      rw [if_neg (by simpa using h2.symm)]
      exact lex_asymm _ _ h
    · rw [if_pos h2] at h
      rw [if_pos (Ne.symm h2)]
      have := of_decide_eq_true h
      exact decide_eq_false (by omega)
  · rw [if_pos h1] at h
    rw [if_pos (Ne.symm h1)]
    have := of_decide_eq_true h
    exact decide_eq_false (by omega)
theorem better_total {s t : Trip} (h : better s t = false) (h' : better t s = false) : s = t := by
  unfold better at h h'
  by_cases h1 : s.km = t.km
  · rw [if_neg (by simpa using h1)] at h
    rw [if_neg (by simpa using h1.symm)] at h'
    by_cases h2 : s.changes = t.changes
    · rw [if_neg (by simpa using h2)] at h
      rw [if_neg (by simpa using h2.symm)] at h'
      have h3 := lex_total _ _ h h'
      cases s; cases t
      simp only at h1 h2 h3
      rw [h1, h2, h3]
    · rw [if_pos h2] at h
      rw [if_pos (Ne.symm h2)] at h'
      have := of_decide_eq_false h
      have := of_decide_eq_false h'
      omega
  · rw [if_pos h1] at h
    rw [if_pos (Ne.symm h1)] at h'
    have := of_decide_eq_false h
    have := of_decide_eq_false h'
    omega
theorem better_neg_trans {s t u : Trip} (h : better s t = false) (h' : better t u = false) : better s u = false := by
  unfold better at h h' ⊢
  by_cases h1 : s.km = t.km
  · rw [if_neg (by simpa using h1)] at h
    by_cases h2 : t.km = u.km
    · rw [if_neg (by simpa using h2)] at h'
      rw [if_neg (by simpa using h1.trans h2)]
      by_cases h3 : s.changes = t.changes
      · rw [if_neg (by simpa using h3)] at h
        by_cases h4 : t.changes = u.changes
        · rw [if_neg (by simpa using h4)] at h'
          rw [if_neg (by simpa using h3.trans h4)]
          exact lex_neg_trans _ _ _ h h'
        · rw [if_pos h4] at h'
          have := of_decide_eq_false h'
          rw [if_pos (by omega)]
          exact decide_eq_false (by omega)
      · rw [if_pos h3] at h
        have := of_decide_eq_false h
        by_cases h4 : t.changes = u.changes
        · rw [if_pos (by omega)]
          exact decide_eq_false (by omega)
        · rw [if_pos h4] at h'
          have := of_decide_eq_false h'
          rw [if_pos (by omega)]
          exact decide_eq_false (by omega)
    · rw [if_pos h2] at h'
      have := of_decide_eq_false h'
      rw [if_pos (by omega)]
      exact decide_eq_false (by omega)
  · rw [if_pos h1] at h
    have := of_decide_eq_false h
    by_cases h2 : t.km = u.km
    · rw [if_pos (by omega)]
      exact decide_eq_false (by omega)
    · rw [if_pos h2] at h'
      have := of_decide_eq_false h'
      rw [if_pos (by omega)]
      exact decide_eq_false (by omega)
theorem better_self (t : Trip) : better t t = false := by
  cases h : better t t
  · rfl
  · rw [better_asymm h] at h; cases h
theorem leastFrom_least : ∀ (l : List Trip) (b : Option Trip) (t : Trip), leastFrom b l = some t → (∀ s, b = some s → better s t = false) ∧ ∀ s ∈ l, better s t = false
  | [], b, t, h => by
    refine ⟨fun s hs => ?_, by simp⟩
    subst hs
    have : s = t := by injection h
    subst this
    exact better_self _
  | x :: l, none, t, h => by
    have ih := leastFrom_least l (some x) t h
    refine ⟨(fun s hs => by cases hs), fun s hs => ?_⟩
    rcases List.mem_cons.1 hs with rfl | hs
    · exact ih.1 _ rfl
    · exact ih.2 s hs
  | x :: l, some b, t, h => by
    have ih := leastFrom_least l _ t h
    have h0 := ih.1 _ rfl
    have hb : better b t = false ∧ better x t = false := by
      cases hx : better x b
      · rw [hx] at h0
        simp only [Bool.false_eq_true, if_false] at h0
        exact ⟨h0, better_neg_trans hx h0⟩
      · rw [hx] at h0
        simp only [if_true] at h0
        exact ⟨better_neg_trans (better_asymm hx) h0, h0⟩
    refine ⟨(fun s hs => by injection hs with hs; subst hs; exact hb.1), fun s hs => ?_⟩
    rcases List.mem_cons.1 hs with rfl | hs
    · exact hb.2
    · exact ih.2 s hs

/-! all ways, breadth first -/
section
variable (r : Step) (p0 : Place) (opn : List Nat)
def kidOk (l : List Nat) (k : Nat) : Bool := decide ((r (endOf r p0 l) k).2.2 = 0) && !decide ((r (endOf r p0 l) k).1 ∈ visits r p0 l)
def kids (l : List Nat) : List (List Nat) := (opn.filter (kidOk r p0 l)).map fun k => l ++ [k]
def grow : Nat → List (List Nat)
  | 0 => [[]]
  | i + 1 => grow i ++ (match (grow i)[i]? with | some l => kids r p0 opn l | none => [])
end
section
variable {m : Nat} {r : Step} {p0 : Place} {opn : List Nat}
theorem visits_append : ∀ (l : List Nat) (k : Nat) (p : Place), visits r p (l ++ [k]) = visits r p l ++ [(r (endOf r p l) k).1]
  | [], k, p => by simp [visits, endOf]
  | i :: l, k, p => by simp only [List.cons_append, visits, endOf, visits_append l k]
theorem kid_iff {l : List Nat} {k : Nat} : kidOk r p0 l k = true ↔ (r (endOf r p0 l) k).2.2 = 0 ∧ (r (endOf r p0 l) k).1 ∉ visits r p0 l := by
  simp [kidOk]
theorem kid_simple (ho : ∀ k ∈ opn, k < m) {l x : List Nat} (h1 : RunOk m r p0 l) (h2 : (visits r p0 l).Nodup) (hx : x ∈ kids r p0 opn l) : RunOk m r p0 x ∧ (visits r p0 x).Nodup := by
  obtain ⟨k, hk, rfl⟩ := List.mem_map.1 hx
  obtain ⟨hk1, hk2⟩ := List.mem_filter.1 hk
  obtain ⟨h3, h4⟩ := kid_iff.1 hk2
  refine ⟨(run_append l [k] p0).2 ⟨h1, ho k hk1, h3, trivial⟩, ?_⟩
  rw [visits_append, List.nodup_append]
  exact ⟨h2, by simp, fun a ha b hb => by
    obtain rfl := List.mem_singleton.1 hb
    rintro rfl
    exact h4 ha⟩
theorem grow_simple (ho : ∀ k ∈ opn, k < m) : ∀ (i : Nat) (l : List Nat), l ∈ grow r p0 opn i → RunOk m r p0 l ∧ (visits r p0 l).Nodup
  | 0, l, h => by
    obtain rfl := List.mem_singleton.1 (show l ∈ [[]] from h)
    exact ⟨trivial, by simp [visits]⟩
  | i + 1, l, h => by
    rw [grow] at h
    rcases List.mem_append.1 h with h | h
    · exact grow_simple ho i l h
    · cases hx : (grow r p0 opn i)[i]? with
      | none => rw [hx] at h; simp at h
      | some x =>
        rw [hx] at h
        obtain ⟨h1, h2⟩ := grow_simple ho i x (List.mem_of_getElem? hx)
        exact kid_simple ho h1 h2 h
theorem grow_at {i : Nat} {x : List Nat} (h : (grow r p0 opn i)[i]? = some x) : grow r p0 opn (i + 1) = grow r p0 opn i ++ kids r p0 opn x := by
  rw [grow, h]
theorem grow_mono {l : List Nat} {i : Nat} (j : Nat) (h : l ∈ grow r p0 opn i) : l ∈ grow r p0 opn (i + j) := by
  induction j with
  | zero => exact h
  | succ j ih => rw [← Nat.add_assoc, grow]; exact List.mem_append_left _ ih
theorem grow_get {i k : Nat} {x : List Nat} (j : Nat) (h : (grow r p0 opn i)[k]? = some x) : (grow r p0 opn (i + j))[k]? = some x := by
  induction j with
  | zero => exact h
  | succ j ih =>
    rw [← Nat.add_assoc, grow, List.getElem?_append_left (List.getElem?_eq_some_iff.1 ih).1]
    exact ih
theorem grow_kids {i j : Nat} (hs : ∀ j, j < i → j < (grow r p0 opn j).length) (hj : j < i) {l x : List Nat} (hl : (grow r p0 opn i)[j]? = some l) (hx : x ∈ kids r p0 opn l) : x ∈ grow r p0 opn i := by
  have h0 : (grow r p0 opn j)[j]? = some ((grow r p0 opn j)[j]'(hs j hj)) := List.getElem?_eq_getElem (hs j hj)
  have h1 := grow_get (i - j) h0
  rw [show j + (i - j) = i by omega, hl] at h1
  injection h1 with h1
  rw [h1] at hx
  have h2 : x ∈ grow r p0 opn (j + 1) := by rw [grow_at h0]; exact List.mem_append_right _ hx
  have := grow_mono (i - (j + 1)) h2
  rwa [show j + 1 + (i - (j + 1)) = i by omega] at this
/-- Once all have been asked, all ways without a place twice are there. -/
theorem grow_all (hop : ∀ k, k < m → (∃ p, (r p k).2.2 = 0) → k ∈ opn) {i : Nat} (hs : ∀ j, j < i → j < (grow r p0 opn j).length) (hi : (grow r p0 opn i).length ≤ i) :
    ∀ (k : Nat) (l : List Nat), l.length = k → RunOk m r p0 l → (visits r p0 l).Nodup → l ∈ grow r p0 opn i
  | 0, l, hl, _, _ => by
    obtain rfl := List.eq_nil_of_length_eq_zero hl
    have : ([] : List Nat) ∈ grow r p0 opn 0 := List.mem_singleton.2 rfl
    have := grow_mono i this
    rwa [Nat.zero_add] at this
  | k + 1, l, hl, h1, h2 => by
    have hne : l ≠ [] := by rintro rfl; simp at hl
    have e := List.dropLast_concat_getLast hne
    generalize l.dropLast = a at e
    generalize l.getLast hne = b at e
    subst e
    obtain ⟨h3, h4, h5, _⟩ := (run_append a [b] p0).1 h1
    rw [visits_append, List.nodup_append] at h2
    have ih := grow_all hop hs hi k a (by simp at hl; omega) h3 h2.1
    obtain ⟨j, hj⟩ := List.getElem?_of_mem ih
    have hjl := (List.getElem?_eq_some_iff.1 hj).1
    refine grow_kids hs (by omega : j < i) hj (List.mem_map.2 ⟨b, List.mem_filter.2 ⟨hop b h4 ⟨_, h5⟩, kid_iff.2 ⟨h5, fun e => ?_⟩⟩, rfl⟩)
    exact h2.2.2 _ e _ (List.mem_singleton.2 rfl) rfl

/-! how many there are -/
/-- so many lists of at most v of q things. -/
def arr : Nat → Nat → Nat
  | _, 0 => 1
  | q, v + 1 => 1 + q * arr (q - 1) v
theorem arr_pos : ∀ q v, 1 ≤ arr q v
  | _, 0 => Nat.le_refl _
  | _, _ + 1 => Nat.le_add_right _ _
/-- where a way leaves stations: the station and the line. -/
def leaves (r : Step) : Place → List Nat → List (Int × Nat)
  | _, [] => []
  | p, i :: l => (p.1, i) :: leaves r (r p i).1 l
theorem leaves_append : ∀ (l : List Nat) (k : Nat) (p : Place), leaves r p (l ++ [k]) = leaves r p l ++ [((endOf r p l).1, k)]
  | [], k, p => by simp [leaves, endOf]
  | i :: l, k, p => by simp only [List.cons_append, leaves, endOf, leaves_append l k]
def dep (r : Step) (p : Place) (s : Int) (l : List Nat) : Nat := (leaves r p l).countP fun x => decide (x.1 = s)
theorem dep_append (l : List Nat) (k : Nat) (p : Place) (s : Int) : dep r p s (l ++ [k]) = dep r p s l + if (endOf r p l).1 = s then 1 else 0 := by
  simp [dep, leaves_append, List.countP_append, List.countP_cons]
theorem visits_dep (s : Int) : ∀ (l : List Nat) (p : Place), (visits r p l).countP (fun x => decide (x.1 = s)) = dep r p s l + if (endOf r p l).1 = s then 1 else 0
  | [], p => by
    by_cases h : p.1 = s
    · simp [visits, dep, leaves, endOf, h]
    · simp [visits, dep, leaves, endOf, h]
  | i :: l, p => by
    have ih := visits_dep s l (r p i).1
    have e : dep r p s (i :: l) = dep r (r p i).1 s l + (if decide (p.1 = s) = true then 1 else 0) := by simp only [dep, leaves, List.countP_cons]
    have e2 : endOf r p (i :: l) = endOf r (r p i).1 l := rfl
    rw [e, e2, visits, List.countP_cons, ih]
    omega
theorem nodup_of_map {α β : Type} {f : α → β} {l : List α} (h : (l.map f).Nodup) : l.Nodup := by
  rw [List.Nodup, List.pairwise_map] at h
  exact h.imp (fun h e => h (by rw [e]))
theorem visits_head2 : ∀ (l : List Nat) (p : Place), ∃ t, visits r p l = p :: t
  | [], _p => ⟨[], rfl⟩
  | _ :: _, _ => ⟨_, rfl⟩
/-- where a way comes, told by what it leaves. -/
theorem visits_leaves (tt : Int → Nat → Place) (hto : ∀ p k, (r p k).2.2 = 0 → (r p k).1 = tt p.1 k) : ∀ (l : List Nat) (p : Place), RunOk m r p l → visits r p l = p :: (leaves r p l).map fun x => tt x.1 x.2
  | [], p, _ => rfl
  | i :: l, p, h => by
    rw [visits, leaves, List.map_cons, visits_leaves tt hto l _ h.2.2, hto p i h.2.1]
end

section
variable {n : Nt} {c : Cch} {p0 : Place}
def ends (n : Nt) (s : Int) (k : Nat) : Place := ((if s = (n.tracks.getD k default).a then (n.tracks.getD k default).b else (n.tracks.getD k default).a), (n.tracks.getD k default).gauge)
theorem run_to {p : Place} {k : Nat} (h : (run n c [] p k).2.2 = 0) : (run n c [] p k).1 = ends n p.1 k := (run_fine h).2.2.2.1
theorem leaves_touch {m : Nat} : ∀ (l : List Nat) (p : Place), RunOk m (run n c []) p l → ∀ x ∈ leaves (run n c []) p l, x.2 < m ∧ ((n.tracks.getD x.2 default).a = x.1 ∨ (n.tracks.getD x.2 default).b = x.1)
  | [], _, _, x, hx => by simp [leaves] at hx
  | i :: l, p, h, x, hx => by
    rw [leaves] at hx
    rcases List.mem_cons.1 hx with rfl | hx
    · exact ⟨h.1, run_ends h.2.1⟩
    · exact leaves_touch l _ h.2.2 x hx
/-- A way leaves a station over each line at most once. -/
theorem kids_le {m : Nat} {opn : List Nat} (hm : ∀ k ∈ opn, k < m) (hnd : opn.Nodup) {l : List Nat} (h1 : RunOk m (run n c []) p0 l) (h2 : (visits (run n c []) p0 l).Nodup) :
    dep (run n c []) p0 (endOf (run n c []) p0 l).1 l + (kids (run n c []) p0 opn l).length ≤ degAt n (endOf (run n c []) p0 l).1 m := by
  have hv := visits_leaves (ends n) (fun p k h => run_to h) l p0 h1
  generalize he : endOf (run n c []) p0 l = e
  have hvn := h2
  rw [hv, List.nodup_cons] at hvn
  have hln : (leaves (run n c []) p0 l).Nodup := nodup_of_map hvn.2
  have hlen : (((leaves (run n c []) p0 l).filter fun x => decide (x.1 = e.1)) ++ (opn.filter (kidOk (run n c []) p0 l)).map fun k => (e.1, k)).length ≤ (((List.range m).filter fun i => decide ((n.tracks.getD i default).a = e.1 ∨ (n.tracks.getD i default).b = e.1)).map fun k => (e.1, k)).length := by
    refine length_le_of_nodup_subset _ _ ?_ ?_
    · rw [List.nodup_append]
      refine ⟨hln.filter _, ?_, ?_⟩
      · have hf : (opn.filter (kidOk (run n c []) p0 l)).Nodup := hnd.filter _
        rw [List.Nodup, List.pairwise_map]
        exact List.Pairwise.imp (fun h e => h (by injection e)) hf
      · intro a ha b hb
        obtain ⟨ha1, _⟩ := List.mem_filter.1 ha
        obtain ⟨k, hk, rfl⟩ := List.mem_map.1 hb
        obtain ⟨_, hk2⟩ := List.mem_filter.1 hk
        obtain ⟨h3, h4⟩ := kid_iff.1 hk2
        rintro rfl
        rw [run_to h3, he, hv] at h4
        exact h4 (List.mem_cons_of_mem _ (List.mem_map.2 ⟨_, ha1, rfl⟩))
    · intro x hx
      rcases List.mem_append.1 hx with hx | hx
      · obtain ⟨hx1, hx2⟩ := List.mem_filter.1 hx
        obtain ⟨h3, h4⟩ := leaves_touch l p0 h1 x hx1
        have hx2 := of_decide_eq_true hx2
        refine List.mem_map.2 ⟨x.2, List.mem_filter.2 ⟨List.mem_range.2 h3, decide_eq_true (by rw [← hx2]; exact h4)⟩, by rw [← hx2]⟩
      · obtain ⟨k, hk, rfl⟩ := List.mem_map.1 hx
        obtain ⟨hk1, hk2⟩ := List.mem_filter.1 hk
        obtain ⟨h3, _⟩ := kid_iff.1 hk2
        rw [he] at h3
        exact List.mem_map.2 ⟨k, List.mem_filter.2 ⟨List.mem_range.2 (hm k hk1), decide_eq_true (run_ends h3)⟩, rfl⟩
  simp only [List.length_append, List.length_map] at hlen
  simp only [dep, kids, List.length_map, degAt, List.countP_eq_length_filter]
  exact hlen

def atStop (s : Int) : List Place := [(s, 1), (s, 2), (s, 3)]
/-- so many ways may still begin as this one. -/
def pot (n : Nt) (c : Cch) (p0 : Place) (m : Nat) (l : List Nat) : Nat :=
  arr (degAt n 0 m - dep (run n c []) p0 0 l) (3 - dep (run n c []) p0 0 l) * (arr (degAt n 1 m - dep (run n c []) p0 1 l) (3 - dep (run n c []) p0 1 l) *
    (arr (degAt n 2 m - dep (run n c []) p0 2 l) (3 - dep (run n c []) p0 2 l) * arr (degAt n 3 m - dep (run n c []) p0 3 l) (3 - dep (run n c []) p0 3 l)))
theorem pot_pos (m : Nat) (l : List Nat) : 1 ≤ pot n c p0 m l := Nat.mul_le_mul (arr_pos _ _) (Nat.mul_le_mul (arr_pos _ _) (Nat.mul_le_mul (arr_pos _ _) (arr_pos _ _)))
theorem arr_step {d a k : Nat} (ha : a + 1 ≤ 3) (hk : a + k ≤ d) : 1 + k * arr (d - (a + 1)) (3 - (a + 1)) ≤ arr (d - a) (3 - a) := by
  have e : 3 - a = (3 - (a + 1)) + 1 := by omega
  have e2 : d - (a + 1) = d - a - 1 := by omega
  rw [e, arr, e2]
  have := Nat.mul_le_mul_right (arr (d - a - 1) (3 - (a + 1))) (show k ≤ d - a by omega)
  omega
theorem step0 {k x y z : Nat} (h : 1 + k * x ≤ y) (hz : 1 ≤ z) : 1 + k * (x * z) ≤ y * z := by
  have := Nat.mul_le_mul_right z h
  rw [Nat.add_mul, Nat.one_mul, Nat.mul_assoc] at this
  omega
theorem stand_le {m : Nat} {U : List Place} (hU : ∀ x, Gets (run n c []) m p0 x → x ∈ U) (hUs : ∀ x ∈ U, x ∈ atStop 0 ∨ x ∈ atStop 1 ∨ x ∈ atStop 2 ∨ x ∈ atStop 3) {l : List Nat} (h1 : RunOk m (run n c []) p0 l) (h2 : (visits (run n c []) p0 l).Nodup) :
    dep (run n c []) p0 (endOf (run n c []) p0 l).1 l + 1 ≤ 3 := by
  have hc := visits_dep (r := run n c []) (endOf (run n c []) p0 l).1 l p0
  rw [if_pos rfl, List.countP_eq_length_filter] at hc
  rw [← hc]
  refine length_le_of_nodup_subset _ (atStop (endOf (run n c []) p0 l).1) (h2.filter _) (fun x hx => ?_)
  obtain ⟨hx1, hx2⟩ := List.mem_filter.1 hx
  have hx2 := of_decide_eq_true hx2
  have hx3 := hUs x (hU x (visits_gets .refl h1 x hx1))
  rw [← hx2]
  simp only [atStop, List.mem_cons, List.not_mem_nil, or_false] at hx3 ⊢
  obtain ⟨x1, x2⟩ := x
  simp only [Prod.mk.injEq] at hx3 ⊢
  rcases hx3 with (h | h | h) | (h | h | h) | (h | h | h) | (h | h | h) <;> obtain ⟨rfl, rfl⟩ := h <;> simp
theorem kid_dep {l x : List Nat} {opn : List Nat} (hx : x ∈ kids (run n c []) p0 opn l) (s : Int) : dep (run n c []) p0 s x = dep (run n c []) p0 s l + if (endOf (run n c []) p0 l).1 = s then 1 else 0 := by
  obtain ⟨k, _, rfl⟩ := List.mem_map.1 hx
  exact dep_append l k p0 s
theorem sum_same {f : List Nat → Nat} {v : Nat} : ∀ L : List (List Nat), (∀ x ∈ L, f x = v) → (L.map f).sum = L.length * v
  | [], _ => by simp
  | x :: L, h => by
    have ih := sum_same L (fun y hy => h y (by simp [hy]))
    rw [List.map_cons, List.sum_cons, ih, h x (by simp), List.length_cons, Nat.add_mul, Nat.one_mul, Nat.add_comm]
theorem pot_step {m : Nat} {opn : List Nat} (hm : ∀ k ∈ opn, k < m) (hnd : opn.Nodup) {U : List Place} (hU : ∀ x, Gets (run n c []) m p0 x → x ∈ U) (hUs : ∀ x ∈ U, x ∈ atStop 0 ∨ x ∈ atStop 1 ∨ x ∈ atStop 2 ∨ x ∈ atStop 3)
    {l : List Nat} (h1 : RunOk m (run n c []) p0 l) (h2 : (visits (run n c []) p0 l).Nodup) : 1 + ((kids (run n c []) p0 opn l).map (pot n c p0 m)).sum ≤ pot n c p0 m l := by
  have hk := kids_le hm hnd h1 h2
  have ha := stand_le hU hUs h1 h2
  have hd := arr_step ha hk
  have he := hUs _ (hU _ (run_gets h1))
  have hs : (endOf (run n c []) p0 l).1 = 0 ∨ (endOf (run n c []) p0 l).1 = 1 ∨ (endOf (run n c []) p0 l).1 = 2 ∨ (endOf (run n c []) p0 l).1 = 3 := by
    generalize endOf (run n c []) p0 l = e at he
    obtain ⟨e1, e2⟩ := e
    simp only [atStop, List.mem_cons, List.not_mem_nil, or_false, Prod.mk.injEq] at he
    simp only
    omega
  rcases hs with e | e | e | e
  · rw [sum_same (v := arr (degAt n 0 m - (dep (run n c []) p0 0 l + 1)) (3 - (dep (run n c []) p0 0 l + 1)) * (arr (degAt n 1 m - dep (run n c []) p0 1 l) (3 - dep (run n c []) p0 1 l) *
      (arr (degAt n 2 m - dep (run n c []) p0 2 l) (3 - dep (run n c []) p0 2 l) * arr (degAt n 3 m - dep (run n c []) p0 3 l) (3 - dep (run n c []) p0 3 l)))) _ (fun x hx => by
        simp only [pot, kid_dep hx, e, if_pos, if_neg (by decide : ¬ (0 : Int) = 1), if_neg (by decide : ¬ (0 : Int) = 2), if_neg (by decide : ¬ (0 : Int) = 3), Nat.add_zero])]
    rw [e] at hd
    exact step0 hd (Nat.mul_le_mul (arr_pos _ _) (Nat.mul_le_mul (arr_pos _ _) (arr_pos _ _)))
  · rw [sum_same (v := arr (degAt n 1 m - (dep (run n c []) p0 1 l + 1)) (3 - (dep (run n c []) p0 1 l + 1)) * (arr (degAt n 0 m - dep (run n c []) p0 0 l) (3 - dep (run n c []) p0 0 l) *
      (arr (degAt n 2 m - dep (run n c []) p0 2 l) (3 - dep (run n c []) p0 2 l) * arr (degAt n 3 m - dep (run n c []) p0 3 l) (3 - dep (run n c []) p0 3 l)))) _ (fun x hx => by
        simp only [pot, kid_dep hx, e, if_pos, if_neg (by decide : ¬ (1 : Int) = 0), if_neg (by decide : ¬ (1 : Int) = 2), if_neg (by decide : ¬ (1 : Int) = 3), Nat.add_zero]
        rw [Nat.mul_left_comm])]
    rw [e] at hd
    refine Nat.le_trans (step0 hd (Nat.mul_le_mul (arr_pos _ _) (Nat.mul_le_mul (arr_pos _ _) (arr_pos _ _)))) ?_
    rw [pot, Nat.mul_left_comm]
    exact Nat.le_refl _
  · rw [sum_same (v := arr (degAt n 2 m - (dep (run n c []) p0 2 l + 1)) (3 - (dep (run n c []) p0 2 l + 1)) * (arr (degAt n 0 m - dep (run n c []) p0 0 l) (3 - dep (run n c []) p0 0 l) *
      (arr (degAt n 1 m - dep (run n c []) p0 1 l) (3 - dep (run n c []) p0 1 l) * arr (degAt n 3 m - dep (run n c []) p0 3 l) (3 - dep (run n c []) p0 3 l)))) _ (fun x hx => by
        simp only [pot, kid_dep hx, e, if_pos, if_neg (by decide : ¬ (2 : Int) = 0), if_neg (by decide : ¬ (2 : Int) = 1), if_neg (by decide : ¬ (2 : Int) = 3), Nat.add_zero]
        ac_rfl)]
    rw [e] at hd
    refine Nat.le_trans (step0 hd (Nat.mul_le_mul (arr_pos _ _) (Nat.mul_le_mul (arr_pos _ _) (arr_pos _ _)))) (Nat.le_of_eq ?_)
    rw [pot]
    ac_rfl
  · rw [sum_same (v := arr (degAt n 3 m - (dep (run n c []) p0 3 l + 1)) (3 - (dep (run n c []) p0 3 l + 1)) * (arr (degAt n 0 m - dep (run n c []) p0 0 l) (3 - dep (run n c []) p0 0 l) *
      (arr (degAt n 1 m - dep (run n c []) p0 1 l) (3 - dep (run n c []) p0 1 l) * arr (degAt n 2 m - dep (run n c []) p0 2 l) (3 - dep (run n c []) p0 2 l)))) _ (fun x hx => by
        simp only [pot, kid_dep hx, e, if_pos, if_neg (by decide : ¬ (3 : Int) = 0), if_neg (by decide : ¬ (3 : Int) = 1), if_neg (by decide : ¬ (3 : Int) = 2), Nat.add_zero]
        ac_rfl)]
    rw [e] at hd
    refine Nat.le_trans (step0 hd (Nat.mul_le_mul (arr_pos _ _) (Nat.mul_le_mul (arr_pos _ _) (arr_pos _ _)))) (Nat.le_of_eq ?_)
    rw [pot]
    ac_rfl
theorem sum_ge {f : List Nat → Nat} (hf : ∀ x, 1 ≤ f x) : ∀ L : List (List Nat), L.length ≤ (L.map f).sum
  | [] => by simp
  | x :: L => by
    have ih := sum_ge hf L
    have := hf x
    rw [List.map_cons, List.sum_cons, List.length_cons]
    omega
theorem grow_pot {m : Nat} {opn : List Nat} (hm : ∀ k ∈ opn, k < m) (hnd : opn.Nodup) {U : List Place} (hU : ∀ x, Gets (run n c []) m p0 x → x ∈ U) (hUs : ∀ x ∈ U, x ∈ atStop 0 ∨ x ∈ atStop 1 ∨ x ∈ atStop 2 ∨ x ∈ atStop 3) :
    ∀ i : Nat, (∀ j, j < i → j < (grow (run n c []) p0 opn j).length) → i + (((grow (run n c []) p0 opn i).drop i).map (pot n c p0 m)).sum ≤ pot n c p0 m []
  | 0, _ => by simp [grow]
  | i + 1, hs => by
    have ih := grow_pot hm hnd hU hUs i (fun j hj => hs j (by omega))
    have hi := hs i (by omega)
    have hx : (grow (run n c []) p0 opn i)[i]? = some (grow (run n c []) p0 opn i)[i] := List.getElem?_eq_getElem hi
    obtain ⟨h1, h2⟩ := grow_simple (m := m) hm i _ (List.getElem_mem hi)
    have hp := pot_step hm hnd hU hUs h1 h2
    rw [grow_at hx, List.drop_append_of_le_length (by omega), List.map_append, List.sum_append]
    rw [List.drop_eq_getElem_cons hi, List.map_cons, List.sum_cons] at ih
    omega
theorem arr_all : ∀ a < 6, ∀ b < 6, ∀ c < 6, ∀ d < 6, a + b + c + d ≤ 10 → arr a 3 * (arr b 3 * (arr c 3 * arr d 3)) ≤ 19999 := by decide +kernel
/-- Fewer than 20000 ways: all are gone through. -/
theorem grow_few {m : Nat} (hm5 : m ≤ 5) {opn : List Nat} (hm : ∀ k ∈ opn, k < m) (hnd : opn.Nodup) {U : List Place} (hU : ∀ x, Gets (run n c []) m p0 x → x ∈ U) (hUs : ∀ x ∈ U, x ∈ atStop 0 ∨ x ∈ atStop 1 ∨ x ∈ atStop 2 ∨ x ∈ atStop 3)
    (i : Nat) (hs : ∀ j, j < i → j < (grow (run n c []) p0 opn j).length) : i ≤ 19999 ∧ (grow (run n c []) p0 opn i).length ≤ 19999 := by
  have h := grow_pot hm hnd hU hUs i hs
  have h2 := sum_ge (fun x => pot_pos (n := n) (c := c) (p0 := p0) m x) ((grow (run n c []) p0 opn i).drop i)
  rw [List.length_drop] at h2
  have hd := deg_sum n m
  have b := fun s => degAt_le n s m
  have b0 := b 0; have b1 := b 1; have b2 := b 2; have b3 := b 3
  have h3 : pot n c p0 m [] ≤ 19999 := by
    have := arr_all (degAt n 0 m) (by omega) (degAt n 1 m) (by omega) (degAt n 2 m) (by omega) (degAt n 3 m) (by omega) (by omega)
    simpa [pot, dep, leaves] using this
  omega

/-! the best of all ways is the one of Way -/
def tripOf (n : Nt) (c : Cch) (p0 : Place) (l : List Nat) : Trip := ⟨ints l, kmOf n l, chOf (run n c []) p0 l⟩
theorem first_hit {m : Nat} {r : Step} {tt : Int} : ∀ (l : List Nat) (p : Place), RunOk m r p l → (endOf r p l).1 = tt → ∃ a b, l = a ++ b ∧ Good m r tt p a
  | [], p, _, he => ⟨[], [], rfl, he⟩
  | i :: l, p, h, he => by
    by_cases hto : p.1 = tt
    · exact ⟨[], i :: l, rfl, hto⟩
    · obtain ⟨a, b, rfl, hg⟩ := first_hit l _ h.2.2 he
      exact ⟨i :: a, b, rfl, hto, h.1, h.2.1, hg⟩
theorem visits_prefix {r : Step} : ∀ (a b : List Nat) (p : Place), ∃ t, visits r p (a ++ b) = visits r p a ++ t
  | [], b, p => by
    obtain ⟨t, h⟩ := visits_head2 (r := r) b p
    exact ⟨t, by simpa [visits] using h⟩
  | i :: a, b, p => by
    obtain ⟨t, h⟩ := visits_prefix (r := r) a b (r p i).1
    exact ⟨t, by simp only [List.cons_append, visits, h]⟩
theorem short_best {fr g tt : Int} (hk : ∀ i, i < n.tracks.length → 1 ≤ (n.tracks.getD i default).km) (U : List Place) (hU : ∀ x, Gets (run n c []) n.tracks.length (fr, g) x → x ∈ U) (hUl : U.length ≤ 24)
    {b : List Nat} (h1 : RunOk n.tracks.length (run n c []) (fr, g) b) (h2 : (visits (run n c []) (fr, g) b).Nodup) (he : (endOf (run n c []) (fr, g) b).1 = tt)
    (hmin : ∀ l, RunOk n.tracks.length (run n c []) (fr, g) l → (visits (run n c []) (fr, g) l).Nodup → (endOf (run n c []) (fr, g) l).1 = tt → better (tripOf n c (fr, g) l) (tripOf n c (fr, g) b) = false) :
    way n c fr g tt = some (tripOf n c (fr, g) b) := by
  have hg : Good n.tracks.length (run n c []) tt (fr, g) b := by
    obtain ⟨x, y, rfl, hg⟩ := first_hit b (fr, g) h1 he
    obtain ⟨hr, hr2⟩ := (run_append x y (fr, g)).1 h1
    obtain ⟨t, ht⟩ := visits_prefix (r := run n c []) x y (fr, g)
    rw [ht, List.nodup_append] at h2
    have hb := (better_km.2 (hmin x hr h2.1 (good_run hg).2))
    simp only [tripOf, km_append] at hb
    cases y with
    | nil => simpa using hg
    | cons i y =>
      have := hk i hr2.1
      have := km_nonneg (fun i hi => by have := hk i hi; omega) hr2.2.2
      simp only [kmOf] at hb
      omega
  have hl : (visits (run n c []) (fr, g) b).length ≤ U.length := length_le_of_nodup_subset _ U h2 (fun x hx => hU x (visits_gets .refl h1 x hx))
  rw [visits_length] at hl
  have hm := (found_iff n c fr g tt (tripOf n c (fr, g) b)).2 ⟨b, by omega, hg, h2, rfl⟩
  unfold way
  cases hf : found n c fr g tt with
  | nil => rw [hf] at hm; simp at hm
  | cons x L =>
    obtain ⟨t, ht⟩ := leastFrom_some L x
    have ht2 : leastFrom none (x :: L) = some t := ht
    rw [ht2]
    have hb := (leastFrom_least (x :: L) none t ht2).2 _ (by rw [← hf]; exact hm)
    have hmt : t ∈ found n c fr g tt := by
      rcases leastFrom_mem (x :: L) none t ht2 with h | h
      · cases h
      · rw [hf]; exact h
    obtain ⟨l, _, l1, l2, rfl⟩ := (found_iff n c fr g tt t).1 hmt
    rw [better_total hb (hmin l (good_run l1).1 l2 (good_run l1).2)]
theorem short_none {fr g tt : Int} (h : ∀ l, RunOk n.tracks.length (run n c []) (fr, g) l → (visits (run n c []) (fr, g) l).Nodup → (endOf (run n c []) (fr, g) l).1 ≠ tt) : way n c fr g tt = none := by
  cases hw : way n c fr g tt with
  | none => rfl
  | some t =>
    rcases leastFrom_mem _ _ _ hw with h0 | h0
    · cases h0
    · obtain ⟨l, _, l1, l2, _⟩ := (found_iff n c fr g tt t).1 h0
      exact absurd (good_run l1).2 (h l (good_run l1).1 l2)
end
end Go.Proofs.YtpbjpochjagicaaGreat.Pl

namespace Go.Proofs.YtpbjpochjagicaaGreat.Pl

theorem better_trans {s t u : Trip} (h : better s t = true) (h' : better t u = true) : better s u = true := by
  cases e : better s u
  · rw [better_neg_trans e (better_asymm h')] at h; cases h
  · rfl
theorem better_not {s t : Trip} : better s t = false ↔ t.km < s.km ∨ (s.km = t.km ∧ (t.changes < s.changes ∨ (s.changes = t.changes ∧ lexLess s.way t.way = false))) := by
  unfold better
  by_cases h1 : s.km = t.km
  · rw [if_neg (by simpa using h1)]
    by_cases h2 : s.changes = t.changes
    · rw [if_neg (by simpa using h2)]
      constructor
      · exact fun h => .inr ⟨h1, .inr ⟨h2, h⟩⟩
      · rintro (h | ⟨_, h | ⟨_, h⟩⟩)
        · omega
        · omega
        · exact h
    · rw [if_pos h2]
      constructor
      · exact fun h => .inr ⟨h1, .inl (by have := of_decide_eq_false h; omega)⟩
      · rintro (h | ⟨_, h | ⟨h, _⟩⟩)
        · omega
        · exact decide_eq_false (by omega)
        · exact absurd h h2
  · rw [if_pos h1]
    constructor
    · exact fun h => .inl (by have := of_decide_eq_false h; omega)
    · rintro (h | ⟨h, _⟩)
      · exact decide_eq_false (by omega)
      · exact absurd h h1
theorem lex_less_append : ∀ (l a : List Int), lexLess l a = true → (∃ x c, a = l ++ x :: c) ∨ ∀ x y, lexLess (l ++ x) (a ++ y) = true
  | [], [], h => by simp [lexLess] at h
  | [], z :: a, _ => .inl ⟨z, a, rfl⟩
  | _ :: _, [], h => by simp [lexLess] at h
  | u :: l, v :: a, h => by
    rw [lexLess] at h
    by_cases h1 : u < v
    · exact .inr (fun x y => by rw [List.cons_append, List.cons_append, lexLess, if_pos h1])
    · rw [if_neg h1] at h
      by_cases h2 : v < u
      · rw [if_pos h2] at h; cases h
      · rw [if_neg h2] at h
        have e : u = v := by omega
        subst e
        rcases lex_less_append l a h with ⟨x, c, rfl⟩ | h3
        · exact .inl ⟨x, c, rfl⟩
        · exact .inr (fun x y => by rw [List.cons_append, List.cons_append, lexLess, if_neg h1, if_neg h2]; exact h3 x y)

section
variable (n : Nt) (r : Step) (p0 : Place)
def tripR (l : List Nat) : Trip := ⟨ints l, kmOf n l, chOf r p0 l⟩
/-- a trip, and a line more. -/
def ext (p : Place) (t : Trip) (i : Nat) : Trip := ⟨t.way ++ [(i : Int)], t.km + (n.tracks.getD i default).km, t.changes + if (r p i).2.1 then 1 else 0⟩
end
/-- is a trip better than what there is? -/
def beats (t : Trip) : Option Trip → Bool
  | none => true
  | some s => better t s
def numOf (p : Place) : Nat := (p.1 * 4 + p.2).toNat

section
variable {n : Nt} {r : Step} {p0 : Place}
theorem trip_ext (l : List Nat) (i : Nat) : tripR n r p0 (l ++ [i]) = ext n r (endOf r p0 l) (tripR n r p0 l) i := by
  simp only [tripR, ext, km_append, ch_append, kmOf, chOf, ints, List.map_append, List.map_cons, List.map_nil, Int.add_zero]
theorem ints_inj : ∀ {l k : List Nat}, ints l = ints k → l = k
  | [], [], _ => rfl
  | [], _ :: _, h => by simp [ints] at h
  | _ :: _, [], h => by simp [ints] at h
  | x :: l, y :: k, h => by
    simp only [ints, List.map_cons, List.cons.injEq] at h
    rw [ints_inj (l := l) (k := k) h.2]
    have := h.1
    congr 1
    omega
theorem ints_append {l : List Nat} : ∀ {a : List Nat} {b : List Int}, ints l = ints a ++ b → ∃ c, l = a ++ c ∧ b = ints c
  | [], b, h => ⟨l, rfl, by simpa [ints] using h.symm⟩
  | x :: a, b, h => by
    cases l with
    | nil => simp [ints] at h
    | cons y l =>
      simp only [ints, List.map_cons, List.cons_append, List.cons.injEq] at h
      obtain ⟨c, h1, h2⟩ := ints_append (l := l) (a := a) (b := b) h.2
      refine ⟨c, ?_, h2⟩
      rw [h1, List.cons_append]
      have := h.1
      congr 1
      omega
/-- What is no worse stays so with a line more. -/
theorem ext_mono {m : Nat} (hk : ∀ i, i < m → 1 ≤ (n.tracks.getD i default).km) {l a : List Nat} (_hl : RunOk m r p0 l) (ha : RunOk m r p0 a) (he : endOf r p0 l = endOf r p0 a)
    (h : better (tripR n r p0 a) (tripR n r p0 l) = false) (i : Nat) : better (tripR n r p0 (a ++ [i])) (tripR n r p0 (l ++ [i])) = false := by
  rw [trip_ext, trip_ext, he]
  have hkm : ∀ (c : List Nat) (p : Place), RunOk m r p c → c ≠ [] → 1 ≤ kmOf n c := by
    intro c
    induction c with
    | nil => intro p _ h; exact absurd rfl h
    | cons j c ih =>
      intro p h _
      have h1 := hk j h.1
      simp only [kmOf]
      cases c with
      | nil => simp only [kmOf]; omega
      | cons j2 c => have := ih _ h.2.2 (by simp); omega
  rw [better_not] at h ⊢
  show (kmOf n l + _ < kmOf n a + _ ∨ (kmOf n a + _ = kmOf n l + _ ∧ (chOf r p0 l + _ < chOf r p0 a + _ ∨ (chOf r p0 a + _ = chOf r p0 l + _ ∧ lexLess (ints a ++ [(i : Int)]) (ints l ++ [(i : Int)]) = false))))
  have h : kmOf n l < kmOf n a ∨ (kmOf n a = kmOf n l ∧ (chOf r p0 l < chOf r p0 a ∨ (chOf r p0 a = chOf r p0 l ∧ lexLess (ints a) (ints l) = false))) := h
  rcases h with h | ⟨h1, h | ⟨h2, h⟩⟩
  · exact .inl (by omega)
  · exact .inr ⟨by omega, .inl (by omega)⟩
  · refine .inr ⟨by omega, .inr ⟨by omega, ?_⟩⟩
    cases h3 : lexLess (ints l) (ints a)
    · rw [lex_total _ _ h h3]
      cases h4 : lexLess (ints l ++ [(i : Int)]) (ints l ++ [(i : Int)])
      · rfl
      · rw [lex_asymm _ _ h4] at h4; cases h4
    · rcases lex_less_append _ _ h3 with ⟨x, c, h4⟩ | h4
      · obtain ⟨d, rfl, hd⟩ := ints_append h4
        have hr := ((run_append l d p0).1 ha).2
        have hd2 : d ≠ [] := by rintro rfl; simp [ints] at hd
        have := hkm d _ hr hd2
        rw [km_append] at h1
        omega
      · exact lex_asymm _ _ (h4 _ _)

/-- What the cells hold, at all times. -/
structure Cells (n : Nt) (r : Step) (p0 : Place) (m : Nat) (U : List Place) (L : List (Option Trip)) : Prop where
  len : L.length = 24
  here : ∃ t, L[numOf p0]? = some (some t)
  ok : ∀ p ∈ U, ∀ t, L[numOf p]? = some (some t) → ∃ l, RunOk m r p0 l ∧ endOf r p0 l = p ∧ t = tripR n r p0 l ∧ (visits r p0 l).Nodup ∧
    ∀ a b, l = a ++ b → ∃ t', L[numOf (endOf r p0 a)]? = some (some t') ∧ better (tripR n r p0 a) t' = false
/-- What U is: it has the first place, is closed, and its places have numbers of their own. -/
structure Fine (n : Nt) (r : Step) (p0 : Place) (m : Nat) (U : List Place) : Prop where
  p0 : p0 ∈ U
  close : ∀ p ∈ U, ∀ i, i < m → (r p i).2.2 = 0 → (r p i).1 ∈ U
  lt : ∀ p ∈ U, numOf p < 24
  inj : ∀ p ∈ U, ∀ q ∈ U, numOf p = numOf q → p = q
  km : ∀ i, i < m → 1 ≤ (n.tracks.getD i default).km
  len : U.length ≤ 24
section
variable {m : Nat} {U : List Place} {L : List (Option Trip)}
theorem Fine.ends (h : Fine n r p0 m U) : ∀ (l : List Nat) (p : Place), p ∈ U → RunOk m r p l → endOf r p l ∈ U
  | [], _, hp, _ => hp
  | i :: l, p, hp, hr => h.ends l _ (h.close p hp i hr.1 hr.2.1) hr.2.2
theorem Fine.visit (h : Fine n r p0 m U) : ∀ (l : List Nat) (p : Place), p ∈ U → RunOk m r p l → ∀ x ∈ visits r p l, x ∈ U
  | [], p, hp, _, x, hx => by
    obtain rfl := List.mem_singleton.1 (show x ∈ [p] from hx)
    exact hp
  | i :: l, p, hp, hr, x, hx => by
    rw [visits] at hx
    rcases List.mem_cons.1 hx with rfl | hx
    · exact hp
    · exact h.visit l _ (h.close p hp i hr.1 hr.2.1) hr.2.2 x hx
theorem end_visit (r : Step) : ∀ (l : List Nat) (p x : Place), x ∈ visits r p l → ∃ a b, l = a ++ b ∧ endOf r p a = x
  | [], p, x, hx => by
    obtain rfl := List.mem_singleton.1 (show x ∈ [p] from hx)
    exact ⟨[], [], rfl, rfl⟩
  | i :: l, p, x, hx => by
    rw [visits] at hx
    rcases List.mem_cons.1 hx with rfl | hx
    · exact ⟨[], i :: l, rfl, rfl⟩
    · obtain ⟨a, b, rfl, h⟩ := end_visit r l _ x hx
      exact ⟨i :: a, b, rfl, h⟩
theorem Cells.start (hf : Fine n r p0 m U) : Cells n r p0 m U ((List.replicate 24 none).set (numOf p0) (some ⟨[], 0, 0⟩)) := by
  have hlt := hf.lt _ hf.p0
  have hat : ((List.replicate 24 (none : Option Trip)).set (numOf p0) (some ⟨[], 0, 0⟩))[numOf p0]? = some (some ⟨[], 0, 0⟩) := by
    rw [List.getElem?_set_self (by simpa using hlt)]
  refine ⟨by simp, ⟨_, hat⟩, fun p hp t ht => ?_⟩
  by_cases e : numOf p = numOf p0
  · obtain rfl := hf.inj p hp p0 hf.p0 e
    rw [hat] at ht
    injection ht with ht
    injection ht with ht
    subst ht
    refine ⟨[], trivial, rfl, rfl, by simp [visits], fun a b hab => ?_⟩
    obtain ⟨rfl, rfl⟩ : a = [] ∧ b = [] := by simpa using hab.symm
    exact ⟨_, hat, better_self _⟩
  · rw [List.getElem?_set_ne (Ne.symm e), List.getElem?_replicate] at ht
    split at ht <;> simp at ht
/-- A better trip is put in. -/
theorem Cells.put (h : Cells n r p0 m U L) (hf : Fine n r p0 m U) {p : Place} (hp : p ∈ U) {t : Trip} (ht : L[numOf p]? = some (some t)) {i : Nat} (hi : i < m) (hz : (r p i).2.2 = 0) {o : Option Trip} (ho : L[numOf (r p i).1]? = some o)
    (hb : beats (ext n r p t i) o = true) : Cells n r p0 m U (L.set (numOf (r p i).1) (some (ext n r p t i))) ∧ ∃ l, (visits r p0 l).Nodup ∧ RunOk m r p0 l ∧ ext n r p t i = tripR n r p0 l := by
  obtain ⟨l, h1, h2, rfl, h4, h5⟩ := h.ok p hp t ht
  have hq := hf.close p hp i hi hz
  have hlt : numOf (r p i).1 < L.length := by rw [h.len]; exact hf.lt _ hq
  have hx : ext n r p (tripR n r p0 l) i = tripR n r p0 (l ++ [i]) := by rw [trip_ext, h2]
  have hrun : RunOk m r p0 (l ++ [i]) := (run_append l [i] p0).2 ⟨h1, by rw [h2]; exact ⟨hi, hz, trivial⟩⟩
  have hkm := hf.km i hi
  have hnew : (r p i).1 ∉ visits r p0 l := fun e => by
    obtain ⟨a, b, hab, he⟩ := end_visit r l p0 _ e
    obtain ⟨t', h6, h7⟩ := h5 a b hab
    rw [he, ho] at h6
    injection h6 with h6
    subst h6
    have h8 : better (ext n r p (tripR n r p0 l) i) t' = true := hb
    rw [better_neg_trans ?_ h7] at h8
    · cases h8
    · have hkb : 0 ≤ kmOf n b := by
        rw [hab] at h1
        have h9 := ((run_append a b p0).1 h1).2
        have : ∀ (c : List Nat) (p : Place), RunOk m r p c → 0 ≤ kmOf n c := by
          intro c
          induction c with
          | nil => intro p _; exact Int.le_refl _
          | cons j c ih => intro p h; have := hf.km j h.1; have := ih _ h.2.2; simp only [kmOf]; omega
        exact this b _ h9
      have e2 : kmOf n l = kmOf n a + kmOf n b := by rw [hab, km_append]
      exact better_not.2 (.inl (show kmOf n a < kmOf n l + _ by omega))
  have hnod : (visits r p0 (l ++ [i])).Nodup := by
    rw [visits_append, h2, List.nodup_append]
    exact ⟨h4, by simp, fun a ha b hb => by
      obtain rfl := List.mem_singleton.1 hb
      rintro rfl
      exact hnew ha⟩
  have hat : (L.set (numOf (r p i).1) (some (ext n r p (tripR n r p0 l) i)))[numOf (r p i).1]? = some (some (ext n r p (tripR n r p0 l) i)) := List.getElem?_set_self hlt
  -- what there was is no worse now
  have hkeep : ∀ (q : Place) (a : List Nat) (t' : Trip), L[numOf q]? = some (some t') → better (tripR n r p0 a) t' = false →
      ∃ t2, (L.set (numOf (r p i).1) (some (ext n r p (tripR n r p0 l) i)))[numOf q]? = some (some t2) ∧ better (tripR n r p0 a) t2 = false := fun q a t' h6 h7 => by
    by_cases e : numOf (r p i).1 = numOf q
    · rw [← e] at h6 ⊢
      rw [ho] at h6
      injection h6 with h6
      subst h6
      exact ⟨_, hat, better_neg_trans h7 (better_asymm hb)⟩
    · exact ⟨t', by rw [List.getElem?_set_ne e]; exact h6, h7⟩
  refine ⟨⟨by simp [h.len], ?_, fun q hqU t2 ht2 => ?_⟩, l ++ [i], hnod, hrun, hx⟩
  · obtain ⟨t0, h0⟩ := h.here
    obtain ⟨t2, h2, _⟩ := hkeep p0 [] t0 h0 (by
      obtain ⟨l0, k1, k2, rfl, k4, k5⟩ := h.ok p0 hf.p0 t0 h0
      have : l0 = [] := by
        cases l0 with
        | nil => rfl
        | cons j l0 =>
          rw [visits, List.nodup_cons] at k4
          have hv : ∀ (l : List Nat) (q : Place), endOf r q l ∈ visits r q l := by
            intro l
            induction l with
            | nil => intro q; simp [visits, endOf]
            | cons j l ih => intro q; rw [visits, endOf]; exact List.mem_cons_of_mem _ (ih _)
          have := hv l0 (r p0 j).1
          rw [endOf] at k2
          rw [k2] at this
          exact absurd this k4.1
      subst this
      exact better_self _)
    exact ⟨t2, h2⟩
  · by_cases e : numOf (r p i).1 = numOf q
    · obtain rfl := hf.inj _ hq q hqU e
      rw [hat] at ht2
      injection ht2 with ht2
      injection ht2 with ht2
      subst ht2
      refine ⟨l ++ [i], hrun, by rw [end_append, h2]; rfl, hx, hnod, fun a b hab => ?_⟩
      by_cases hb0 : b = []
      · subst hb0
        rw [List.append_nil] at hab
        subst hab
        rw [end_append, h2]
        refine ⟨_, hat, ?_⟩
        rw [hx]
        exact better_self _
      · have e2 := List.dropLast_concat_getLast hb0
        rw [← e2, ← List.append_assoc] at hab
        have e3 := List.append_inj' hab rfl
        obtain ⟨t', h6, h7⟩ := h5 a b.dropLast e3.1
        exact hkeep _ a t' h6 h7
    · rw [List.getElem?_set_ne e] at ht2
      obtain ⟨l2, k1, k2, k3, k4, k5⟩ := h.ok q hqU t2 ht2
      refine ⟨l2, k1, k2, k3, k4, fun a b hab => ?_⟩
      obtain ⟨t', h6, h7⟩ := k5 a b hab
      exact hkeep _ a t' h6 h7
/-- Nothing becomes better. -/
def Still (n : Nt) (r : Step) (m : Nat) (U : List Place) (L : List (Option Trip)) : Prop :=
  ∀ p ∈ U, ∀ t, L[numOf p]? = some (some t) → ∀ i, i < m → (r p i).2.2 = 0 → ∀ o, L[numOf (r p i).1]? = some o → beats (ext n r p t i) o = false
/-- Then each cell holds the best of all trips to its place. -/
theorem Cells.best (h : Cells n r p0 m U L) (hf : Fine n r p0 m U) (hs : Still n r m U L) : ∀ (k : Nat) (l : List Nat), l.length = k → RunOk m r p0 l → ∃ t, L[numOf (endOf r p0 l)]? = some (some t) ∧ better (tripR n r p0 l) t = false
  | 0, l, hl, _ => by
    obtain rfl := List.eq_nil_of_length_eq_zero hl
    obtain ⟨t, ht⟩ := h.here
    obtain ⟨l, k1, k2, rfl, k4, k5⟩ := h.ok p0 hf.p0 t ht
    obtain ⟨t', h6, h7⟩ := k5 [] l rfl
    exact ⟨t', h6, h7⟩
  | k + 1, l, hl, hr => by
    have hne : l ≠ [] := by rintro rfl; simp at hl
    have e := List.dropLast_concat_getLast hne
    generalize l.dropLast = a at e
    generalize l.getLast hne = b at e
    subst e
    obtain ⟨h3, h4, h5, _⟩ := (run_append a [b] p0).1 hr
    obtain ⟨t, ht, hbt⟩ := h.best hf hs k a (by simp at hl; omega) h3
    have hU := hf.ends a p0 hf.p0 h3
    obtain ⟨l2, k1, k2, rfl, _, _⟩ := h.ok _ hU t ht
    have hq := hf.close _ hU b h4 h5
    have hlt : numOf (r (endOf r p0 a) b).1 < L.length := by rw [h.len]; exact hf.lt _ hq
    have ho : L[numOf (r (endOf r p0 a) b).1]? = some L[numOf (r (endOf r p0 a) b).1] := List.getElem?_eq_getElem hlt
    have hs2 := hs _ hU _ ht b h4 h5 _ ho
    have hm := ext_mono hf.km k1 h3 k2 hbt b
    rw [trip_ext l2, k2] at hm
    rw [end_append]
    show ∃ t, L[numOf (r (endOf r p0 a) b).1]? = some (some t) ∧ _
    cases hc : L[numOf (r (endOf r p0 a) b).1] with
    | none => rw [hc] at hs2; cases hs2
    | some t2 =>
      rw [hc] at hs2 ho
      exact ⟨t2, ho, better_neg_trans hm hs2⟩

/-! it ends -/
/-- all lists of at most k numbers below m. -/
def allTo (m : Nat) : Nat → List (List Nat)
  | 0 => [[]]
  | k + 1 => [] :: (allTo m k).flatMap fun l => (List.range m).map fun i => i :: l
theorem mem_allTo {m : Nat} : ∀ (k : Nat) (l : List Nat), l.length ≤ k → (∀ x ∈ l, x < m) → l ∈ allTo m k
  | 0, l, hl, _ => by
    obtain rfl := List.eq_nil_of_length_eq_zero (Nat.le_zero.1 hl)
    exact List.mem_singleton.2 rfl
  | k + 1, [], _, _ => List.mem_cons_self
  | k + 1, x :: l, hl, hx => by
    rw [allTo]
    refine List.mem_cons_of_mem _ (List.mem_flatMap.2 ⟨l, mem_allTo k l (by simpa using hl) (fun y hy => hx y (by simp [hy])), List.mem_map.2 ⟨x, List.mem_range.2 (hx x (by simp)), rfl⟩⟩)
def cost (n : Nt) (r : Step) (p0 : Place) (m : Nat) : Option Trip → Nat
  | none => (allTo m 24).length + 1
  | some t => (allTo m 24).countP fun l => better (tripR n r p0 l) t
def costs (n : Nt) (r : Step) (p0 : Place) (m : Nat) (L : List (Option Trip)) : Nat := (L.map (cost n r p0 m)).sum
theorem count_less {α : Type} {p q : α → Bool} : ∀ {l : List α} {x : α}, (∀ y ∈ l, p y = true → q y = true) → x ∈ l → q x = true → p x = false → l.countP p < l.countP q
  | y :: l, x, h, hx, hq, hp => by
    have h0 := List.countP_mono_left (fun z hz => h z (List.mem_cons_of_mem _ hz)) (p := p) (q := q) (l := l)
    rw [List.countP_cons, List.countP_cons]
    rcases List.mem_cons.1 hx with rfl | hx
    · rw [hq, hp]
      simp only [Bool.false_eq_true, if_true, if_false]
      omega
    · have ih := count_less (fun z hz => h z (List.mem_cons_of_mem _ hz)) hx hq hp
      by_cases h1 : p y = true
      · rw [if_pos h1, if_pos (h y (by simp) h1)]; omega
      · rw [if_neg h1]; split <;> omega
theorem run_lt : ∀ {l : List Nat} {p : Place}, RunOk m r p l → ∀ x ∈ l, x < m
  | i :: l, p, h, x, hx => by
    rcases List.mem_cons.1 hx with rfl | hx
    · exact h.1
    · exact run_lt h.2.2 x hx
theorem sum_set : ∀ (L : List Nat) (k v : Nat) (o : Nat), L[k]? = some o → v < o → (L.set k v).sum < L.sum
  | x :: L, 0, v, o, h, hv => by
    injection h with h
    subst h
    rw [List.set_cons_zero, List.sum_cons, List.sum_cons]
    omega
  | x :: L, k + 1, v, o, h, hv => by
    have := sum_set L k v o (by simpa using h) hv
    rw [List.set_cons_succ, List.sum_cons, List.sum_cons]
    omega
theorem cost_put (hf : Fine n r p0 m U) {k : Nat} {o : Option Trip} (ho : L[k]? = some o) {l : List Nat} (h1 : (visits r p0 l).Nodup) (h2 : RunOk m r p0 l) (hb : beats (tripR n r p0 l) o = true) :
    costs n r p0 m (L.set k (some (tripR n r p0 l))) < costs n r p0 m L := by
  have hlen : l.length ≤ 24 := by
    have := length_le_of_nodup_subset _ U h1 (hf.visit l p0 hf.p0 h2)
    rw [visits_length] at this
    have := hf.len
    omega
  have hin := mem_allTo 24 l hlen (run_lt h2)
  unfold costs
  rw [List.map_set]
  refine sum_set _ k _ (cost n r p0 m o) (by rw [List.getElem?_map, ho]; rfl) ?_
  cases o with
  | none =>
    simp only [cost]
    have := List.countP_le_length (p := fun l2 => better (tripR n r p0 l2) (tripR n r p0 l)) (l := allTo m 24)
    omega
  | some t => exact count_less (fun y _ hy => better_trans hy hb) hin hb (better_self _)
end
end
end Go.Proofs.YtpbjpochjagicaaGreat.Pl

namespace Go.Proofs.YtpbjpochjagicaaGreat
open Go.RowKit

structure Tc where
  t : Option Pl.Trip
  A : Option Addr
  c : Nat
def tWay : Option Pl.Trip → List Int
  | none => []
  | some t => t.way
def tKm : Option Pl.Trip → Int
  | none => 0
  | some t => t.km
def tCh : Option Pl.Trip → Int
  | none => 0
  | some t => t.changes
def tcCells (x : Tc) : List Value := [.bool x.t.isSome, .int .i64 (tKm x.t), .int .i64 (tCh x.t), .slice x.A (tWay x.t).length x.c]
theorem tc_set : ∀ (ls : List Tc) (k : Nat) (x : Tc), k < ls.length →
    ((((ls.flatMap tcCells).set (k * 4) (.bool x.t.isSome)).set (k * 4 + 1) (.int .i64 (tKm x.t))).set (k * 4 + 2) (.int .i64 (tCh x.t))).set (k * 4 + 3) (.slice x.A (tWay x.t).length x.c) = (ls.set k x).flatMap tcCells
  | [], k, t, h => by simp at h
  | x :: l, 0, t, _ => by simp [tcCells]
  | x :: l, k + 1, t, h => by
    have ih := tc_set l k t (by simpa using h)
    have e : ∀ (ys : List Value) (j : Nat) (v : Value), (tcCells x ++ ys).set ((k + 1) * 4 + j) v = tcCells x ++ ys.set (k * 4 + j) v := fun ys j v => by
      rw [List.set_append_right _ _ (by simp [tcCells]; omega)]
      congr 2
      simp [tcCells]
      omega
    have e0 : ∀ (ys : List Value) (v : Value), (tcCells x ++ ys).set ((k + 1) * 4) v = tcCells x ++ ys.set (k * 4) v := fun ys v => e ys 0 v
    simp only [List.set_cons_succ, List.flatMap_cons, e, e0, ih]
theorem tc_at : ∀ (ls : List Tc) (k j : Nat) (x : Tc), j < 4 → ls[k]? = some x → (ls.flatMap tcCells)[k * 4 + j]? = (tcCells x)[j]?
  | [], k, j, x, _, h => by simp at h
  | u :: l, 0, j, x, hj, h => by
    obtain rfl : u = x := by simpa using h
    rw [List.flatMap_cons, Nat.zero_mul, Nat.zero_add, List.getElem?_append_left (by simpa [tcCells] using hj)]
  | u :: l, k + 1, j, x, hj, h => by
    rw [List.flatMap_cons, List.getElem?_append_right (by simp [tcCells]; omega), show (k + 1) * 4 + j - (tcCells u).length = k * 4 + j by simp [tcCells]; omega]
    exact tc_at l k j x hj (by simpa using h)
theorem tc_len : ∀ ls : List Tc, (ls.flatMap tcCells).length = ls.length * 4
  | [] => rfl
  | u :: l => by rw [List.flatMap_cons, List.length_append, tc_len l, List.length_cons]; simp only [tcCells, List.length_cons, List.length_nil]; omega

/-- A block of trips, each list of lines outside of it. -/
structure TcsAt (w : World) (g : Nat) (ls : List Tc) : Prop where
  blk : w.heap[g]? = some (.cells (ls.flatMap tcCells).toArray 100 (0, 0))
  ways : ∀ x ∈ ls, IntsN w (fun b => b = g) x.A (tWay x.t)
section
variable {w w' : World} {g : Nat} {ls : List Tc}
theorem TcsAt.kept (h : TcsAt w g ls) (hk : ∀ b, b < w.heap.size → w'.heap[b]? = w.heap[b]?) : TcsAt w' g ls :=
  ⟨(hk g (lt_of_block h.blk)).trans h.blk, fun x hx => (h.ways x hx).keep fun b hb hs => ⟨hs, hk b hb⟩⟩
theorem TcsAt.below (h : TcsAt w g ls) (hb : Below w.heap.size w w') : TcsAt w' g ls := h.kept fun b hlt => hb.block b hlt
theorem TcsAt.pick (h : TcsAt w g ls) {k : Nat} {x : Tc} (hx : ls[k]? = some x) :
    w.cell? ⟨g, k * 4, none⟩ = some (.bool x.t.isSome) ∧ w.cell? ⟨g, k * 4 + 1, none⟩ = some (.int .i64 (tKm x.t)) ∧ w.cell? ⟨g, k * 4 + 2, none⟩ = some (.int .i64 (tCh x.t)) ∧ w.cell? ⟨g, k * 4 + 3, none⟩ = some (.slice x.A (tWay x.t).length x.c) ∧
      Ints w w.heap.size x.A (tWay x.t) := by
  have hc : ∀ j, j < 4 → w.cell? ⟨g, k * 4 + j, none⟩ = (tcCells x)[j]? := fun j hj => by
    rw [blk_cell h.blk (k * 4 + j), List.getElem?_toArray]
    exact tc_at ls k j x hj hx
  exact ⟨hc 0 (by omega), hc 1 (by omega), hc 2 (by omega), hc 3 (by omega), (h.ways x (List.mem_of_getElem? hx)).ints⟩
theorem tc_frozen (h : TcsAt w g ls) (j : Nat) : w.frozen? ⟨g, j, none⟩ = false := by
  simp [World.frozen?, h.blk]
theorem TcsAt.put (h : TcsAt w g ls) {k : Nat} (hk : k < ls.length) (x : Tc) (hI : IntsN w (fun b => b = g) x.A (tWay x.t)) :
    TcsAt ((((w.setCell ⟨g, k * 4, none⟩ (.bool x.t.isSome)).setCell ⟨g, k * 4 + 1, none⟩ (.int .i64 (tKm x.t))).setCell ⟨g, k * 4 + 2, none⟩ (.int .i64 (tCh x.t))).setCell ⟨g, k * 4 + 3, none⟩ (.slice x.A (tWay x.t).length x.c)) g (ls.set k x) := by
  have hset : ∀ (W : World) (cs : List Value) (j : Nat) (v : Value), W.heap[g]? = some (.cells cs.toArray 100 (0, 0)) → (W.setCell ⟨g, j, none⟩ v).heap[g]? = some (.cells (cs.set j v).toArray 100 (0, 0)) := fun W cs j v hW => by
    simp [World.setCell, Array.getElem?_modify, hW]
  have hkeep : ∀ (W : World) (a : Nat) (v : Value) (A : Option Addr) (xs : List Int), IntsN W (fun b => b = g) A xs → IntsN (W.setCell ⟨g, a, none⟩ v) (fun b => b = g) A xs := fun W a v A xs hI2 =>
    hI2.keep fun b hb hs => ⟨hs, Below.heap_setCell W ⟨g, a, none⟩ v b hs⟩
  refine ⟨?_, fun y hy => ?_⟩
  · have := hset _ _ (k * 4 + 3) (.slice x.A (tWay x.t).length x.c) (hset _ _ (k * 4 + 2) (.int .i64 (tCh x.t)) (hset _ _ (k * 4 + 1) (.int .i64 (tKm x.t)) (hset _ _ (k * 4) (.bool x.t.isSome) h.blk)))
    rw [tc_set ls k x hk] at this
    exact this
  · refine hkeep _ _ _ _ _ (hkeep _ _ _ _ _ (hkeep _ _ _ _ _ (hkeep _ _ _ _ _ ?_)))
    rcases List.mem_or_eq_of_mem_set hy with hy | rfl
    · exact h.ways y hy
    · exact hI
end
end Go.Proofs.YtpbjpochjagicaaGreat
