/- Plain laws: numbers below a number in an ascending list; both ends of open lines. -/
import Derived.Test.YtpbjpochjagicaaWy
namespace Go.Proofs.Ytpbjpochjagicaa.Pl

def below (l : List Int) (x : Int) : Nat := (l.filter fun y => decide (y < x)).length
theorem below_le (l : List Int) (x : Int) : below l x ≤ l.length := List.length_filter_le _ _
theorem below_none : ∀ (l : List Int) (x : Int), (∀ y ∈ l, x ≤ y) → below l x = 0
  | [], _, _ => rfl
  | y :: l, x, h => by
    have h0 := h y (by simp)
    have ih := below_none l x (fun z hz => h z (by simp [hz]))
    unfold below at ih ⊢
    rw [List.filter_cons, if_neg (by simp; omega)]
    exact ih
theorem below_all : ∀ (l : List Int) (x : Int), (∀ y ∈ l, y < x) → below l x = l.length
  | [], _, _ => rfl
  | y :: l, x, h => by
    have h0 := h y (by simp)
    have ih := below_all l x (fun z hz => h z (by simp [hz]))
    unfold below at ih ⊢
    rw [List.filter_cons, if_pos (by simpa using h0)]
    simp [ih]
theorem below_at : ∀ {l : List Int} {x : Int}, l.Pairwise (· < ·) → x ∈ l → l[below l x]? = some x
  | y :: l, x, h, hx => by
    obtain ⟨h1, h2⟩ := List.pairwise_cons.1 h
    unfold below
    rcases List.mem_cons.1 hx with rfl | hx
    · have e := below_none l x (fun z hz => by have := h1 z hz; omega)
      unfold below at e
      rw [List.filter_cons, if_neg (by simp), e]
      rfl
    · have := h1 x hx
      have ih := below_at h2 hx
      unfold below at ih
      rw [List.filter_cons, if_pos (by simpa using this)]
      simpa using ih
theorem below_succ_in : ∀ {l : List Int} {x : Int}, l.Pairwise (· < ·) → x ∈ l → below l (x + 1) = below l x + 1
  | y :: l, x, h, hx => by
    obtain ⟨h1, h2⟩ := List.pairwise_cons.1 h
    unfold below
    rcases List.mem_cons.1 hx with rfl | hx
    · have e := below_none l (x + 1) (fun z hz => by have := h1 z hz; omega)
      have e2 := below_none l x (fun z hz => by have := h1 z hz; omega)
      unfold below at e e2
      rw [List.filter_cons, List.filter_cons, if_pos (by simp; omega), if_neg (by simp), List.length_cons, e, e2]
    · have := h1 x hx
      have ih := below_succ_in h2 hx
      unfold below at ih
      rw [List.filter_cons, List.filter_cons, if_pos (by simp; omega), if_pos (by simp; omega), List.length_cons, List.length_cons, ih]
theorem below_succ_out : ∀ {l : List Int} {x : Int}, x ∉ l → below l (x + 1) = below l x
  | [], _, _ => rfl
  | y :: l, x, hx => by
    have h1 : y ≠ x := fun e => hx (by simp [e])
    have ih := below_succ_out (l := l) (x := x) (fun e => hx (by simp [e]))
    unfold below at ih ⊢
    rw [List.filter_cons, List.filter_cons]
    by_cases h : y < x
    · rw [if_pos (by simp; omega), if_pos (by simpa using h), List.length_cons, List.length_cons, ih]
    · rw [if_neg (by simp; omega), if_neg (by simpa using h), ih]

/-- If bogies can be changed everywhere a car comes to both ends of an open line, or to none. -/
theorem both_ends {n : Nt} {c : Cch} {p : Place} {i : Nat} (hi : i < n.tracks.length) (ho : barred c (n.tracks.getD i default) = []) (hne : (n.tracks.getD i default).a ≠ (n.tracks.getD i default).b)
    (ha : (n.tracks.getD i default).a ∈ n.shops) (hb : (n.tracks.getD i default).b ∈ n.shops) :
    (∃ x, Gets (run n c []) n.tracks.length p x ∧ x.1 = (n.tracks.getD i default).a) ↔ ∃ x, Gets (run n c []) n.tracks.length p x ∧ x.1 = (n.tracks.getD i default).b := by
  constructor
  · rintro ⟨x, hx, he⟩
    have hz : (run n c [] x i).2.2 = 0 := run_make ho (.inl he) (fun _ => by rw [he]; exact ha)
    obtain ⟨_, _, _, f4, _⟩ := run_fine hz
    exact ⟨_, hx.step hi hz, by rw [f4, if_pos he]⟩
  · rintro ⟨x, hx, he⟩
    have hz : (run n c [] x i).2.2 = 0 := run_make ho (.inr he) (fun _ => by rw [he]; exact hb)
    obtain ⟨_, _, _, f4, _⟩ := run_fine hz
    exact ⟨_, hx.step hi hz, by rw [f4, if_neg (by rw [he]; exact Ne.symm hne)]⟩

/-- all lines that do not bar a car. -/
def openOf (n : Nt) (c : Cch) : List Int := ((List.range n.tracks.length).filter fun i => decide ((barred c (n.tracks.getD i default)).length = 0)).map fun i : Nat => (i : Int)
theorem mem_openOf {n : Nt} {c : Cch} {x : Int} (h : x ∈ openOf n c) : ∃ i : Nat, x = i ∧ i < n.tracks.length ∧ barred c (n.tracks.getD i default) = [] := by
  unfold openOf at h
  simp only [List.mem_map, List.mem_filter, List.mem_range, decide_eq_true_eq] at h
  obtain ⟨i, ⟨h1, h2⟩, rfl⟩ := h
  exact ⟨i, rfl, h1, List.eq_nil_of_length_eq_zero h2⟩
end Go.Proofs.Ytpbjpochjagicaa.Pl
