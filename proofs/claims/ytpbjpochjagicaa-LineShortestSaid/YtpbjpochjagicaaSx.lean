/- Plain laws: how the law's walk over all ways goes on by one line (LineShortest). -/
import Derived.Test.YtpbjpochjagicaaW91
import Derived.Test.YtpbjpochjagicaaFl2
import Derived.Test.YtpbjpochjagicaaW47
namespace Go.Proofs.Ytpbjpochjagicaa.Pl

/-- the lines from one on that lead on from a way. -/
def growTo (r : Step) (p0 : Place) (opn : List Nat) (i : Nat) (l : List Nat) (k : Nat) : List (List Nat) := grow r p0 opn i ++ ((opn.take k).filter (kidOk r p0 l)).map fun j => l ++ [j]
section
variable {r : Step} {p0 : Place} {opn : List Nat} {i : Nat} {l : List Nat}
theorem growTo_zero : growTo r p0 opn i l 0 = grow r p0 opn i := by simp [growTo]
theorem growTo_all (h : (grow r p0 opn i)[i]? = some l) : growTo r p0 opn i l opn.length = grow r p0 opn (i + 1) := by
  rw [grow_at h, growTo, List.take_length]
  rfl
theorem growTo_yes {k : Nat} (hk : k < opn.length) (h : kidOk r p0 l opn[k] = true) : growTo r p0 opn i l (k + 1) = growTo r p0 opn i l k ++ [l ++ [opn[k]]] := by
  unfold growTo
  rw [List.take_succ_eq_append_getElem hk, List.filter_append, List.map_append, ← List.append_assoc]
  congr 1
  rw [List.filter_cons, if_pos h]
  rfl
theorem growTo_no {k : Nat} (hk : k < opn.length) (h : kidOk r p0 l opn[k] = false) : growTo r p0 opn i l (k + 1) = growTo r p0 opn i l k := by
  unfold growTo
  rw [List.take_succ_eq_append_getElem hk, List.filter_append, List.map_append, List.filter_cons, if_neg (by rw [h]; decide)]
  simp
theorem growTo_len {k : Nat} : (growTo r p0 opn i l k).length ≤ (grow r p0 opn i).length + opn.length := by
  unfold growTo
  rw [List.length_append, List.length_map]
  have h1 := List.length_filter_le (kidOk r p0 l) (opn.take k)
  have h2 := List.length_take_le k opn
  have h3 : (opn.take k).length ≤ opn.length := List.length_take_le' k opn
  omega
end
section
variable {n : Nt} {c : Cch} {p0 : Place} {l : List Nat} {k : Nat}
/-- The line does not begin where the way ends. -/
theorem kid_away (ha : (endOf (run n c []) p0 l).1 ≠ (n.tracks.getD k default).a) (hb : (endOf (run n c []) p0 l).1 ≠ (n.tracks.getD k default).b) : kidOk (run n c []) p0 l k = false := by
  have hz : (run n c [] (endOf (run n c []) p0 l) k).2.2 = 7 := by
    generalize endOf (run n c []) p0 l = q at ha hb
    unfold run runT
    rw [if_neg ha, if_neg hb]
  cases h : kidOk (run n c []) p0 l k
  · rfl
  · have := (kid_iff.1 h).1
    rw [hz] at this
    exact absurd this (by decide)
/-- Bogies would have to be changed, and can't be. -/
theorem kid_stuck (hg : (n.tracks.getD k default).gauge ≠ (endOf (run n c []) p0 l).2) (hs : (endOf (run n c []) p0 l).1 ∉ n.shops) : kidOk (run n c []) p0 l k = false := by
  cases h : kidOk (run n c []) p0 l k
  · rfl
  · have := (run_fine (kid_iff.1 h).1).2.2.1 hg
    exact absurd this hs
/-- The line leads on. -/
theorem kid_on (hb : barred c (n.tracks.getD k default) = []) (he : (endOf (run n c []) p0 l).1 = (n.tracks.getD k default).a ∨ (endOf (run n c []) p0 l).1 = (n.tracks.getD k default).b)
    (hs : (n.tracks.getD k default).gauge ≠ (endOf (run n c []) p0 l).2 → (endOf (run n c []) p0 l).1 ∈ n.shops) :
    kidOk (run n c []) p0 l k = !decide (((if (endOf (run n c []) p0 l).1 = (n.tracks.getD k default).a then (n.tracks.getD k default).b else (n.tracks.getD k default).a), (n.tracks.getD k default).gauge) ∈ visits (run n c []) p0 l) ∧
    endOf (run n c []) p0 (l ++ [k]) = ((if (endOf (run n c []) p0 l).1 = (n.tracks.getD k default).a then (n.tracks.getD k default).b else (n.tracks.getD k default).a), (n.tracks.getD k default).gauge) ∧
    kmOf n (l ++ [k]) = kmOf n l + (n.tracks.getD k default).km ∧ chOf (run n c []) p0 (l ++ [k]) = chOf (run n c []) p0 l + if (n.tracks.getD k default).gauge ≠ (endOf (run n c []) p0 l).2 then 1 else 0 := by
  have hz := run_make hb he hs
  obtain ⟨_, _, _, f4, f5⟩ := run_fine hz
  refine ⟨?_, ?_, ?_, ?_⟩
  · simp only [kidOk, hz, decide_true, Bool.true_and, f4]
  · rw [end_append]
    exact f4
  · rw [km_append]
    simp [kmOf]
  · rw [ch_append]
    simp only [chOf, f5, decide_eq_true_eq, Int.add_zero]
theorem km_le {m : Nat} {r : Step} (hk : ∀ i, i < m → (n.tracks.getD i default).km ≤ 99) : ∀ (l : List Nat) (p : Place), RunOk m r p l → kmOf n l ≤ 99 * (l.length : Int)
  | [], _, _ => by simp [kmOf]
  | i :: l, p, h => by
    have h1 := hk i h.1
    have h2 := km_le hk l _ h.2.2
    simp only [kmOf, List.length_cons]
    push_cast
    omega
theorem ch_le {r : Step} : ∀ (l : List Nat) (p : Place), 0 ≤ chOf r p l ∧ chOf r p l ≤ (l.length : Int)
  | [], _ => by simp [chOf]
  | i :: l, p => by
    have h2 := ch_le (r := r) l (r p i).1
    simp only [chOf, List.length_cons]
    push_cast
    split <;> omega

def stops4 : List Place := atStop 0 ++ (atStop 1 ++ (atStop 2 ++ atStop 3))
theorem mem_stops4 {x : Place} : x ∈ stops4 ↔ 0 ≤ x.1 ∧ x.1 ≤ 3 ∧ 1 ≤ x.2 ∧ x.2 ≤ 3 := by
  obtain ⟨a, b⟩ := x
  simp only [stops4, atStop, List.cons_append, List.nil_append, List.mem_cons, List.not_mem_nil, or_false, Prod.mk.injEq]
  omega
theorem stops4_split : ∀ x ∈ stops4, x ∈ atStop 0 ∨ x ∈ atStop 1 ∨ x ∈ atStop 2 ∨ x ∈ atStop 3 := fun x hx => by
  simpa [stops4, List.mem_append, or_assoc] using hx
end
end Go.Proofs.Ytpbjpochjagicaa.Pl
namespace Go.Proofs.Ytpbjpochjagicaa
open Go.RowKit
theorem gets4 {n : Pl.Nt} {c : Pl.Cch} {p0 : Pl.Place} (hck : Pl.check n = 0) (h4 : n.stops ≤ 4) (hp : p0 ∈ Pl.stops4) : ∀ x, Pl.Gets (Pl.run n c []) n.tracks.length p0 x → x ∈ Pl.stops4 := fun x h => by
  induction h with
  | refl => exact hp
  | @step x i _ hi hz ih =>
    obtain ⟨_, _, _, f4, _⟩ := Pl.run_fine hz
    have ok := trk_at hck hi
    rw [f4, Pl.mem_stops4]
    have := ok.a0; have := ok.a1; have := ok.b0; have := ok.b1; have := ok.g0; have := ok.g1
    simp only
    split <;> omega
/-- A way as the law holds it. -/
def toWk (n : Pl.Nt) (c : Pl.Cch) (p0 : Pl.Place) (l : List Nat) : Wk := ⟨Pl.ints l, (Pl.endOf (Pl.run n c []) p0 l).1, (Pl.endOf (Pl.run n c []) p0 l).2, Pl.kmOf n l, Pl.chOf (Pl.run n c []) p0 l⟩
/-- What is known of a way that has come up. -/
structure WkIn (n : Pl.Nt) (c : Pl.Cch) (p0 : Pl.Place) (l : List Nat) : Prop where
  run : Pl.RunOk n.tracks.length (Pl.run n c []) p0 l
  nodup : (Pl.visits (Pl.run n c []) p0 l).Nodup
  len : l.length ≤ 11
  s0 : 0 ≤ (Pl.endOf (Pl.run n c []) p0 l).1
  s1 : (Pl.endOf (Pl.run n c []) p0 l).1 ≤ 3
  k0 : 0 ≤ Pl.kmOf n l
  k1 : Pl.kmOf n l ≤ 2000
  c0 : 0 ≤ Pl.chOf (Pl.run n c []) p0 l
  c1 : Pl.chOf (Pl.run n c []) p0 l ≤ 11
theorem wk_in4 {n : Pl.Nt} {c : Pl.Cch} {p0 : Pl.Place} {opn : List Nat} (hck : Pl.check n = 0) (h4 : n.stops ≤ 4) (hp : p0 ∈ Pl.stops4) (ho : ∀ k ∈ opn, k < n.tracks.length) {i : Nat} {l : List Nat} (h : l ∈ Pl.grow (Pl.run n c []) p0 opn i) : WkIn n c p0 l := by
  obtain ⟨h1, h2⟩ := Pl.grow_simple ho i l h
  have hU := gets4 (c := c) hck h4 hp
  have hlen := Pl.length_le_of_nodup_subset _ Pl.stops4 h2 (fun x hx => hU x (Pl.visits_gets .refl h1 x hx))
  rw [Pl.visits_length] at hlen
  have hlen : l.length + 1 ≤ 12 := hlen
  have he := Pl.mem_stops4.1 (hU _ (Pl.run_gets h1))
  have hk := Pl.km_le (n := n) (fun i hi => (trk_at hck hi).km1) l p0 h1
  have hk0 := Pl.km_nonneg (n := n) (fun i hi => by have := (trk_at hck hi).km0; omega) h1
  have hc := Pl.ch_le (r := Pl.run n c []) l p0
  exact ⟨h1, h2, by omega, he.1, he.2.1, hk0, by omega, hc.1, by omega⟩
end Go.Proofs.Ytpbjpochjagicaa
