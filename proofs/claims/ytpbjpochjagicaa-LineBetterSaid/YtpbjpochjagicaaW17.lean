/- Walks: the first list of the fewest things that will do. -/
import Derived.Test.YtpbjpochjagicaaW16
import Derived.Deep.RegionLawGrows
namespace Go.Proofs.Ytpbjpochjagicaa
open Go.RowKit

theorem clone_any (A : Option Addr) (c : Nat) (l : List Int) (w : World) (hl : Ints w w.heap.size A l) (hlen : l.length ≤ 1000) :
    Calls Try.prog 74 #[.slice A l.length c] w fun e w' => ∃ A' c', e = .returned (.slice A' l.length c') ∧ Ints w' w'.heap.size A' l ∧ Below w.heap.size w w' := by
  rcases hl.form with rfl | ⟨b, off, rfl, hb, hc⟩
  · cases A with
    | none =>
      refine (Try.slices_Clone_int_nil 0 c w).mono ?_
      rintro e w' ⟨rfl, rfl⟩
      exact ⟨none, 0, rfl, Ints.nil _ _ _, Below.refl _ _⟩
    | some a =>
      refine (Try.slices_Clone_int_zero a c w).mono ?_
      rintro e w' ⟨v', rfl, hown, _, hb⟩
      obtain ⟨A', c', rfl⟩ := own_slice hown
      exact ⟨A', c', rfl, Ints.nil _ _ _, hb⟩
  · refine (Try.slices_Clone_int b off l.length c l w (Nat.le_refl _) (by omega) (fun j hj => ?_)).mono ?_
    · rw [hc j hj, List.getD_eq_getElem?_getD, List.getElem?_eq_getElem hj]; rfl
    rintro e w' ⟨v', rfl, hown, _, hb⟩
    obtain ⟨A', c', rfl⟩ := own_slice hown
    rw [List.take_length] at hown
    exact ⟨A', c', rfl, OwnInts.ints hown, hb⟩

theorem grown_none {w w' : World} (h : w.grownBy w' none) : Below w.heap.size w w' := ⟨h.os, h.tape, h.output, h.size, fun k hk => h.block k hk (by simp)⟩

/-- 'append(s[:n:n], x)': always a new row. -/
theorem step_grow_ints {P : Program} {ops : Array Oper} {o : Oper} {a : Act} {w : World} {K : Act → World → Prop} {Q : Exit → Act → World → Prop} {E : Prop}
    (hg : o.guard = none) (s x : Operand) (hop : o.op = Op.call { callee := Callee.builtin Builtin.append, args := #[s, x], argTypes := #[22, 22] })
    (ht : P.underlying 22 = some (.slice 3)) (hi : (P.info? 3).map (fun i => (i.zero, i.size, i.bytes)) = some (some (.int .i64 0), 1, 8))
    (A : Option Addr) (xs : List Int) (cap : Nat) (hcap : cap = xs.length) (hs : a.eval s = .slice A xs.length cap) (hnone : A = none → xs = []) (B : Nat) (hr : Ints w B A xs)
    (g c : Nat) (y : Int) (hx : a.eval x = .slice (some ⟨g, 0, none⟩) 1 c) (hc : w.cell? ⟨g, 0, none⟩ = some (.int .i64 y)) (hlen : xs.length ≤ 1000)
    (hK : ∀ g' c' w', Ints w' w'.heap.size (some ⟨g', 0, none⟩) (xs ++ [y]) → xs.length + 1 ≤ c' → Below w.heap.size w w' → K (a.put o.dst (.slice (some ⟨g', 0, none⟩) (xs ++ [y]).length c')) w') :
    if Region.wanted o (yielded ops a.tmps) = true then Oper.wp P o a w K Q else E := by
  obtain ⟨i, h1, h2, h3, h4⟩ := info_parts hi
  have hread := hr.reads
  refine step_append_grows hg s x 22 hop 3 i (.int .i64 0) 1 8 ht h1 h2 h3 h4 rfl (by omega) A xs.length cap (xs.map (Value.int .i64)) hs (fun h => by rw [hcap, hnone h]; simp) (by simp) (fun b hb j u hu => ?_)
    ⟨g, 0, none⟩ 1 c [.int .i64 y] hx rfl (fun j u hu => ?_) (fun u hu => by simp at hu; subst hu; rfl) (by omega) (by simp [maxLen]; omega) (by omega) ?_
  · have hn : 0 < xs.length := by
      have := (List.getElem?_eq_some_iff.1 hu).1
      simp at this; omega
    obtain ⟨ad, hA, _, hcell⟩ := hread.2 hn
    rw [hA] at hb; injection hb with hb; subst hb
    exact hcell j u hu
  · cases j with
    | zero => simp at hu; subst hu; simpa [Addr.add] using hc
    | succ j => simp at hu
  · intro v' w' hown hgrow
    obtain ⟨A2, c2, rfl⟩ := own_slice hown
    have hl : xs.length + 1 = (xs ++ [y]).length := by simp
    have hmap : xs.map (Value.int .i64) ++ [.int .i64 y] = (xs ++ [y]).map (Value.int .i64) := by simp
    rw [hl, hmap] at hown
    rcases hown.2 with ⟨_, h0⟩ | ⟨g', cap', cur, hv, _, _, hnc, _⟩
    · simp at h0
    · injection hv with hv1 hv2 hv3
      subst hv1 hv3
      rw [hl]
      exact hK g' _ w' (OwnInts.ints hown) (by simpa using hnc) (grown_none hgrow)

/-- The closure 'pick' at work: its variables' boxes are the blocks b, b + 1, b + 2. -/
structure PickAt (w0 : World) (allA : Option Addr) (allc : Nat) (all : List Int) (F : FuncId) (q1 q2 q3 q4 : Value) (wr : World) : Prop where
  h0 : wr.heap[w0.heap.size]? = some (.cells #[.slice allA all.length allc] 22 (0, 0))
  h1 : wr.heap[w0.heap.size + 1]? = some (.cells #[.func (.func F) #[] #[q1, q2, q3, q4]] 43 (0, 0))
  h2 : wr.heap[w0.heap.size + 1 + 1]? = some (.cells #[.func (.func 104) #[] #[.pointer (some ⟨w0.heap.size + 1, 0, none⟩), .pointer (some ⟨w0.heap.size, 0, none⟩), .pointer (some ⟨w0.heap.size + 1 + 1, 0, none⟩)]] 144 (0, 0))
  hall : Ints wr w0.heap.size allA all
  bel : Below w0.heap.size w0 wr
theorem PickAt.below {w0 : World} {allA : Option Addr} {allc : Nat} {all : List Int} {F : FuncId} {q1 q2 q3 q4 : Value} {wr w' : World} (h : PickAt w0 allA allc all F q1 q2 q3 q4 wr) {B : Nat} (hb : Below B wr w') (hB : w0.heap.size + 1 + 1 < B) :
    PickAt w0 allA allc all F q1 q2 q3 q4 w' :=
  ⟨blk_below h.h0 hb (by omega), blk_below h.h1 hb (by omega), blk_below h.h2 hb (by omega), h.hall.below (hb.mono (by omega)), h.bel.trans (hb.mono (by omega))⟩

def WillDo (w0 : World) (F : FuncId) (q1 q2 q3 q4 : Value) (all : List Int) (f : List Int → Bool) : Prop :=
  ∀ (wr : World) (A : Option Addr) (c : Nat) (l : List Int), Below w0.heap.size w0 wr → Ints wr wr.heap.size A l → (∀ x ∈ l, x ∈ all) → l.length ≤ all.length →
    Calls Try.prog F #[.slice A l.length c, q1, q2, q3, q4] wr fun e w' => e = .returned (.bool (f l)) ∧ Below wr.heap.size wr w'

def PickPost (r : Option (List Int)) (w : World) (e : Ending) (w' : World) : Prop :=
  match r with
  | some l => ∃ A c, e = .returned (.tuple #[.slice A l.length c, .bool true]) ∧ Ints w' w'.heap.size A l ∧ Below w.heap.size w w'
  | none => ∃ A n c, e = .returned (.tuple #[.slice A n c, .bool false]) ∧ Below w.heap.size w w'

def pickVal (f : List Int → Bool) (chosen l : List Int) (m : Nat) : Option (List Int) := ((Pl.lists l m).find? fun k => f (chosen ++ k)).map (chosen ++ ·)

theorem pickVal_zero (f : List Int → Bool) (chosen l : List Int) : pickVal f chosen l 0 = if f chosen then some chosen else none := by
  rw [pickVal, Pl.lists]
  by_cases h : f chosen = true
  · simp [h]
  · simp [h]
theorem find_map_cons (x : Int) (p : List Int → Bool) (k : List (List Int)) : (k.map (x :: ·)).find? p = (k.find? fun l => p (x :: l)).map (x :: ·) := by
  rw [List.find?_map]; rfl
theorem pickVal_succ (f : List Int → Bool) (chosen l : List Int) (x : Int) (m : Nat) : pickVal f chosen (x :: l) (m + 1) = (pickVal f (chosen ++ [x]) l m).or (pickVal f chosen l (m + 1)) := by
  simp only [pickVal, Pl.lists, List.find?_append, find_map_cons]
  cases h : (Pl.lists l m).find? fun k => f (chosen ++ x :: k) with
  | none => simp [h]
  | some k => simp [h]
theorem pickVal_nil (f : List Int → Bool) (chosen : List Int) (m : Nat) : pickVal f chosen [] (m + 1) = none := rfl
end Go.Proofs.Ytpbjpochjagicaa
