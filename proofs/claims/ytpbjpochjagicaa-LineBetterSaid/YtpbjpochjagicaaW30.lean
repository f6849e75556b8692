/- Walks: the walk over all ways, on to the next places. -/
import Derived.Test.YtpbjpochjagicaaW29
namespace Go.Proofs.Ytpbjpochjagicaa
open Go.RowKit

/-- 'append(s[:n:n], x)': always a new row, of the call's own. -/
theorem step_grow_own {P : Program} {ops : Array Oper} {o : Oper} {a : Act} {w : World} {K : Act → World → Prop} {Q : Exit → Act → World → Prop} {E : Prop}
    (hg : o.guard = none) (s x : Operand) (hop : o.op = Op.call { callee := Callee.builtin Builtin.append, args := #[s, x], argTypes := #[22, 22] })
    (ht : P.underlying 22 = some (.slice 3)) (hi : (P.info? 3).map (fun i => (i.zero, i.size, i.bytes)) = some (some (.int .i64 0), 1, 8))
    (A : Option Addr) (xs : List Int) (cap : Nat) (hcap : cap = xs.length) (hs : a.eval s = .slice A xs.length cap) (hnone : A = none → xs = []) (B : Nat) (hr : Ints w B A xs)
    (g c : Nat) (y : Int) (hx : a.eval x = .slice (some ⟨g, 0, none⟩) 1 c) (hc : w.cell? ⟨g, 0, none⟩ = some (.int .i64 y)) (hlen : xs.length ≤ 1000)
    (hK : ∀ g' c' w', OwnInts w' w.heap.size (some ⟨g', 0, none⟩) c' (xs ++ [y]) → Below w.heap.size w w' → K (a.put o.dst (.slice (some ⟨g', 0, none⟩) (xs ++ [y]).length c')) w') :
    if Region.wanted o (yielded ops a.tmps) = true then Oper.wp P o a w K Q else E := by
  obtain ⟨i, h1, h2, h3, h4⟩ := info_parts hi
  have hread := hr.reads
  refine step_append_grows hg s x 22 hop 3 i (.int .i64 0) 1 8 ht h1 h2 h3 h4 rfl (by omega) A xs.length cap (xs.map (Value.int .i64)) hs (fun h => by rw [hcap, hnone h]; simp) (by simp) (fun b hb j u hu => ?_)
    ⟨g, 0, none⟩ 1 c [.int .i64 y] hx rfl (fun j u hu => ?_) (fun u hu => by simp at hu; subst hu; rfl) (by omega) (by simp [maxLen]; omega) (by omega) ?_
  · have hn : 0 < xs.length := by
      have := (List.getElem?_eq_some_iff.1 hu).1
      simp at this; omega
    obtain ⟨ad, hA, _, hcell⟩ := hread.2 hn
    rw [hA] at hb; injection hb with hb; subst hb
    exact hcell j u hu
  · cases j with
    | zero => simp at hu; subst hu; simpa [Addr.add] using hc
    | succ j => simp at hu
  · intro v' w' hown hgrow
    obtain ⟨A2, c2, rfl⟩ := own_slice hown
    have hl : xs.length + 1 = (xs ++ [y]).length := by simp
    have hmap : xs.map (Value.int .i64) ++ [.int .i64 y] = (xs ++ [y]).map (Value.int .i64) := by simp
    rw [hl, hmap] at hown
    rcases hown.2 with ⟨_, h0⟩ | ⟨g', cap', cur, hv, _, _, hnc, _⟩
    · simp at h0
    · injection hv with hv1 hv2 hv3
      subst hv1 hv3
      rw [hl]
      exact hK g' _ w' hown (grown_none hgrow)

theorem run_slice_same (A : Option Addr) (n c : Nat) (h : n ≤ c) (w : World) : (Instr.slice 22 (.slice A n c) none (some (.int .i64 n)) (some (.int .i64 n))).run Try.prog w = .ok (.slice A n n) w := by
  have h0 : A.map (·.add 0) = A := by cases A <;> simp [Addr.add]
  have hs : (sizeOf (Try.prog.elem 22)).run Try.prog w = .ok 1 w := by kernel_rfl
  simp [Instr.slice, run_underlying Try.underlying22, Instr.sliceBounds, run_sliceBound, h]
  simp [go_sem]

section
variable {w0 : World} {bf bB : Nat} {w : World} {ts : List Pl.Trip} {es : List (Pl.Place × Nat)} {ck : Nat} {r : Option Nat}
theorem WalkAt.row (h : WalkAt w0 bf bB w ts es ck r) : ∀ k, r = some k → ∃ cur, w.heap[k]? = some (.cells cur 111 (0, 0)) := by
  intro k hk
  obtain ⟨A, c, cs, f1, f2, f3, f4⟩ := h.fnd
  rcases f2.2 with ⟨h2, _⟩ | ⟨g, cp, cur, hv, _, hh, _⟩
  · injection h2 with h2; subst h2; rw [← f4] at hk; cases hk
  · injection hv with hv; subst hv
    rw [← f4] at hk; simp at hk; subst hk
    exact ⟨cur, hh⟩
theorem WalkAt.mapNe (h : WalkAt w0 bf bB w ts es ck r) : some bB ≠ r ∧ bB ≠ bf := by
  refine ⟨fun e => ?_, fun e => ?_⟩
  · obtain ⟨cur, hc⟩ := h.row bB e.symm
    have hm : w.heap[bB]? = some (.map (ents es) ck) := h.map
    rw [hm] at hc; cases hc
  · obtain ⟨A, c, cs, f1, f2, f3, f4⟩ := h.fnd
    have hm : w.heap[bB]? = some (.map (ents es) ck) := h.map
    rw [e, f1] at hm; cases hm
/-- Another map. -/
theorem WalkAt.setMap (h : WalkAt w0 bf bB w ts es ck r) (es' : List (Pl.Place × Nat)) (ck' : Nat) : WalkAt w0 bf bB (setMap w bB es' ck') ts es' ck' r ∧ KeptN bf bB r w (setMap w bB es' ck') := by
  obtain ⟨hBr, hBf⟩ := h.mapNe
  have hk : ∀ k, k ≠ bB → (Go.Proofs.Ytpbjpochjagicaa.setMap w bB es' ck').heap[k]? = w.heap[k]? := fun k hk => setMap_far es' ck' hk
  obtain ⟨A, c, cs, f1, f2, f3, f4⟩ := h.fnd
  have hs := size_setMap w bB es' ck'
  refine ⟨⟨h.os, h.tape, h.output, by rw [hs]; exact h.size, fun k k1 k2 k3 => (hk k k3).trans (h.old k k1 k2 k3), ⟨A, c, cs, (hk bf (Ne.symm hBf)).trans f1, ⟨f2.1, ?_⟩, f3.keep (fun b _ h2 => ⟨h2, hk b (fun e => h2 (.inr (.inl e)))⟩), f4⟩,
    setMap_is h.map.lt es' ck', fun k e => by rw [hs]; exact h.hr k e⟩, ⟨by rw [hs]; exact Nat.le_refl _, fun k _ _ k2 _ => hk k k2⟩⟩
  rcases f2.2 with h2 | ⟨g, cap, cur, hv, hg, hh, rr⟩
  · exact .inl h2
  · refine .inr ⟨g, cap, cur, hv, hg, (hk g (fun e => ?_)).trans hh, rr⟩
    subst e
    have hm : w.heap[g]? = some (.map (ents es) ck) := h.map
    rw [hm] at hh; cases hh
theorem IntsN.kept {w' : World} {r' : Option Nat} {A : Option Addr} {xs : List Int} {H : Nat} (h : IntsN w (Sx bf bB r) A xs) (hk : KeptN bf bB r w w') (hr : RowOk H r r') (hH : w.heap.size ≤ H) : IntsN w' (Sx bf bB r') A xs :=
  h.keep (fun b h1 h2 => by
    refine ⟨?_, hk.block b h1 (fun e => h2 (.inl e)) (fun e => h2 (.inr (.inl e))) (fun e => h2 (.inr (.inr e)))⟩
    rintro (h3 | h3 | h3)
    · exact h2 (.inl h3)
    · exact h2 (.inr (.inl h3))
    · rcases hr with rfl | ⟨q, rfl, hq⟩
      · exact h2 (.inr (.inr h3))
      · injection h3 with h3; omega)
end

/-- What is found on from line number i. -/
def dfsAt (n : Pl.Nt) (r : Pl.Place → Nat → Pl.Place × Bool × Int) (ds : Int) (f : Nat) (met : List Pl.Place) (p : Pl.Place) (t : Pl.Trip) (i : Nat) : List Pl.Trip :=
  if (r p i).2.2 ≠ 0 ∨ (r p i).1 ∈ met ++ [p] then []
  else Pl.dfs n r ds f (met ++ [p]) (r p i).1 ⟨t.way ++ [(i : Int)], t.km + (n.tracks.getD i default).km, t.changes + if (r p i).2.1 then 1 else 0⟩
def dfsTo (n : Pl.Nt) (r : Pl.Place → Nat → Pl.Place × Bool × Int) (ds : Int) (f : Nat) (met : List Pl.Place) (p : Pl.Place) (t : Pl.Trip) (k : Nat) : List Pl.Trip := (List.range k).flatMap (dfsAt n r ds f met p t)
theorem dfs_to {n : Pl.Nt} {r : Pl.Place → Nat → Pl.Place × Bool × Int} {ds : Int} {f : Nat} {met : List Pl.Place} {p : Pl.Place} {t : Pl.Trip} (h : p.1 ≠ ds) : Pl.dfs n r ds (f + 1) met p t = dfsTo n r ds f met p t n.tracks.length := by
  rw [Pl.dfs, if_neg h]; rfl
theorem dfs_here {n : Pl.Nt} {r : Pl.Place → Nat → Pl.Place × Bool × Int} {ds : Int} {f : Nat} {met : List Pl.Place} {p : Pl.Place} {t : Pl.Trip} (h : p.1 = ds) : Pl.dfs n r ds (f + 1) met p t = [t] := by
  rw [Pl.dfs, if_pos h]
theorem dfsTo_succ (n : Pl.Nt) (r : Pl.Place → Nat → Pl.Place × Bool × Int) (ds : Int) (f : Nat) (met : List Pl.Place) (p : Pl.Place) (t : Pl.Trip) (k : Nat) : dfsTo n r ds f met p t (k + 1) = dfsTo n r ds f met p t k ++ dfsAt n r ds f met p t k := by
  simp [dfsTo, List.range_succ, List.flatMap_append]
theorem dfsTo_le (n : Pl.Nt) (r : Pl.Place → Nat → Pl.Place × Bool × Int) (ds : Int) (f : Nat) (met : List Pl.Place) (p : Pl.Place) (t : Pl.Trip) {k m : Nat} (h : k ≤ m) : (dfsTo n r ds f met p t k).length ≤ (dfsTo n r ds f met p t m).length := by
  induction m with
  | zero => obtain rfl : k = 0 := by omega
            exact Nat.le_refl _
  | succ m ih =>
    rcases Nat.lt_or_ge m k with h1 | h1
    · obtain rfl : k = m + 1 := by omega
      exact Nat.le_refl _
    · rw [dfsTo_succ, List.length_append]; have := ih h1; omega
theorem dfsAt_skip {n : Pl.Nt} {r : Pl.Place → Nat → Pl.Place × Bool × Int} {ds : Int} {f : Nat} {met : List Pl.Place} {p : Pl.Place} {t : Pl.Trip} {i : Nat} (h : (r p i).2.2 ≠ 0 ∨ (r p i).1 ∈ met ++ [p]) : dfsAt n r ds f met p t i = [] := by rw [dfsAt, if_pos h]
theorem dfsAt_go {n : Pl.Nt} {r : Pl.Place → Nat → Pl.Place × Bool × Int} {ds : Int} {f : Nat} {met : List Pl.Place} {p : Pl.Place} {t : Pl.Trip} {i : Nat} (h : ¬ ((r p i).2.2 ≠ 0 ∨ (r p i).1 ∈ met ++ [p])) :
    dfsAt n r ds f met p t i = Pl.dfs n r ds f (met ++ [p]) (r p i).1 ⟨t.way ++ [(i : Int)], t.km + (n.tracks.getD i default).km, t.changes + if (r p i).2.1 then 1 else 0⟩ := by rw [dfsAt, if_neg h]
end Go.Proofs.Ytpbjpochjagicaa
