/- Own rows of ways as the law goes through them (walk): a list of lines and four numbers each. -/
import Derived.Test.YtpbjpochjagicaaW67
namespace Go.Proofs.Ytpbjpochjagicaa
open Go.RowKit

structure Wk where
  way : List Int
  stop : Int
  gauge : Int
  km : Int
  turn : Int
def wkCell (x : Wk) (A : Option Addr) (c : Nat) : List Value := [.slice A x.way.length c, .int .i64 x.stop, .int .i64 x.gauge, .int .i64 x.km, .int .i64 x.turn]
def WkCells (w : World) (S : Nat → Prop) : List Wk → List Value → Prop
  | [], cs => cs = []
  | x :: ls, cs => ∃ A c rest, cs = wkCell x A c ++ rest ∧ IntsN w S A x.way ∧ x.way.length ≤ 1000 ∧ WkCells w S ls rest
theorem WkCells.keep {w w' : World} {S S' : Nat → Prop} (hk : ∀ b, b < w.heap.size → ¬ S b → ¬ S' b ∧ w'.heap[b]? = w.heap[b]?) : ∀ {ls : List Wk} {cs : List Value}, WkCells w S ls cs → WkCells w' S' ls cs
  | [], cs, h => h
  | l :: ls, cs, h => by
    obtain ⟨A, c, rest, e, h1, h2, h3⟩ := h
    exact ⟨A, c, rest, e, h1.keep hk, h2, WkCells.keep hk h3⟩
theorem WkCells.snoc {w : World} {S : Nat → Prop} {x : Wk} {A : Option Addr} {c : Nat} (hI : IntsN w S A x.way) (hl : x.way.length ≤ 1000) : ∀ {ls : List Wk} {cs : List Value}, WkCells w S ls cs → WkCells w S (ls ++ [x]) (cs ++ wkCell x A c)
  | [], cs, h => by rw [show cs = [] from h]; exact ⟨A, c, [], by simp, hI, hl, rfl⟩
  | u :: ls, cs, h => by
    obtain ⟨A', c', rest, rfl, h1, h2, h3⟩ := h
    exact ⟨A', c', _, by rw [List.append_assoc], h1, h2, WkCells.snoc hI hl h3⟩
theorem WkCells.at_ {w : World} {S : Nat → Prop} : ∀ {ls : List Wk} {cs : List Value}, WkCells w S ls cs → ∀ {k : Nat} {x : Wk}, ls[k]? = some x →
    ∃ A c, (∀ i v, (wkCell x A c)[i]? = some v → cs[k * 5 + i]? = some v) ∧ IntsN w S A x.way ∧ x.way.length ≤ 1000
  | [], cs, h, k, x, ht => by simp at ht
  | u :: ls, cs, h, 0, x, ht => by
    obtain ⟨A, c, rest, rfl, h1, h2, h3⟩ := h
    simp at ht; subst ht
    refine ⟨A, c, fun i v hv => ?_, h1, h2⟩
    rw [Nat.zero_mul, Nat.zero_add, List.getElem?_append_left (List.getElem?_eq_some_iff.1 hv).1]
    exact hv
  | u :: ls, cs, h, k + 1, x, ht => by
    obtain ⟨A, c, rest, rfl, h1, h2, h3⟩ := h
    obtain ⟨A', c', e1, e2, e3⟩ := WkCells.at_ h3 (k := k) (by simpa using ht)
    refine ⟨A', c', fun i v hv => ?_, e2, e3⟩
    rw [List.getElem?_append_right (by simp [wkCell]; omega)]
    have := e1 i v hv
    simp only [wkCell, List.length_cons, List.length_nil]
    rwa [show (k + 1) * 5 + i - (0 + 1 + 1 + 1 + 1 + 1) = k * 5 + i by omega]
theorem WkCells.one {w : World} {S : Nat → Prop} : ∀ {ls : List Wk} {cs : List Value}, WkCells w S ls cs → ∀ u ∈ cs, u.oneCell' = true
  | [], cs, h, u, hu => by rw [show cs = [] from h] at hu; cases hu
  | l :: ls, cs, h, u, hu => by
    obtain ⟨A, c, rest, rfl, _, _, h3⟩ := h
    rcases List.mem_append.1 hu with hu | hu
    · simp only [wkCell, List.mem_cons, List.not_mem_nil, or_false] at hu
      rcases hu with rfl | rfl | rfl | rfl | rfl <;> rfl
    · exact WkCells.one h3 u hu

/-- An own row of ways; the lists of lines too lie in memory from base on. -/
def OwnWks (w : World) (base : Nat) (A : Option Addr) (c : Nat) (ls : List Wk) : Prop :=
  ∃ cs, w.ownsRow base 82 5 (.slice A ls.length c) ls.length cs ∧ WkCells w (rowBlk base A) ls cs
theorem wk_info : (Try.prog.info? 82).map (fun i => (i.zero, i.size, i.bytes)) = some (some (.agg #[.slice none 0 0, .int .i64 0, .int .i64 0, .int .i64 0, .int .i64 0]), 5, 56) := by kernel_rfl
theorem OwnWks.block {w : World} {base : Nat} {A : Option Addr} {c : Nat} {ls : List Wk} (h : OwnWks w base A c ls) : ∀ q, A = some q → base ≤ q.block ∧ q.block < w.heap.size := by
  obtain ⟨cs, h1, h2⟩ := h
  intro q hq
  subst hq
  rcases h1.2 with ⟨hv, _⟩ | ⟨g, cap, cur, hv, hb, hh, _⟩
  · cases hv
  · injection hv with hv _ _
    injection hv with hv
    subst hv
    exact ⟨hb, lt_of_block hh⟩
theorem OwnWks.keep {w w' : World} {base : Nat} {A : Option Addr} {c : Nat} {ls : List Wk} (h : OwnWks w base A c ls) (hk : ∀ b, b < w.heap.size → w'.heap[b]? = w.heap[b]?) : OwnWks w' base A c ls := by
  obtain ⟨cs, h1, h2⟩ := h
  refine ⟨cs, ⟨h1.1, ?_⟩, h2.keep fun b hb hs => ⟨hs, hk b hb⟩⟩
  rcases h1.2 with h3 | ⟨g, cap, cur, hv, hb, hh, r⟩
  · exact .inl h3
  · exact .inr ⟨g, cap, cur, hv, hb, (hk g (lt_of_block hh)).trans hh, r⟩
theorem OwnWks.below {w w' : World} {base B : Nat} {A : Option Addr} {c : Nat} {ls : List Wk} (h : OwnWks w base A c ls) (hb : Below B w w') (hB : w.heap.size ≤ B) : OwnWks w' base A c ls :=
  h.keep fun b hlt => hb.block b (by omega)
/-- Blocks below base may have turned. -/
theorem OwnWks.keepIn {w w' : World} {base : Nat} {A : Option Addr} {c : Nat} {ls : List Wk} (h : OwnWks w base A c ls) (hk : KeepIn base w w') : OwnWks w' base A c ls := by
  obtain ⟨cs, h1, h2⟩ := h
  refine ⟨cs, ⟨h1.1, ?_⟩, h2.keep fun b hb hs => ⟨hs, hk.block b (Nat.le_of_not_lt fun e => hs (.inl e)) hb⟩⟩
  rcases h1.2 with h3 | ⟨g, cap, cur, hv, hb, hh, r⟩
  · exact .inl h3
  · exact .inr ⟨g, cap, cur, hv, hb, (hk.block g hb (lt_of_block hh)).trans hh, r⟩
theorem OwnWks.alloc {w : World} {base : Nat} {A : Option Addr} {c : Nat} {ls : List Wk} (h : OwnWks w base A c ls) (o : Obj) : OwnWks (w.alloc o) base A c ls :=
  h.keep fun _ hlt => Below.heap_alloc _ _ _ hlt
theorem OwnWks.drew {w : World} {base : Nat} {A : Option Addr} {c : Nat} {ls : List Wk} (h : OwnWks w base A c ls) : OwnWks w.drew base A c ls := h.keep fun _ _ => rfl
theorem OwnWks.from_ {w : World} {base : Nat} {A : Option Addr} {c : Nat} {ls : List Wk} (h : OwnWks w base A c ls) : ∀ k, (Value.slice A ls.length c).ownBlock = some k → base ≤ k ∧ k < w.heap.size := by
  intro k hk
  cases A with
  | none => simp [Value.ownBlock] at hk
  | some q =>
    simp [Value.ownBlock] at hk
    subst hk
    exact h.block q rfl
/-- A fresh row of one way without lines. -/
theorem OwnWks.lit (w : World) (s g k t : Int) : OwnWks (w.alloc (.cells #[.slice none 0 0, .int .i64 s, .int .i64 g, .int .i64 k, .int .i64 t] 82)) w.heap.size (some ⟨w.heap.size, 0, none⟩) 1 [⟨[], s, g, k, t⟩] :=
  ⟨[.slice none 0 0, .int .i64 s, .int .i64 g, .int .i64 k, .int .i64 t], World.ownsRow_lit w #[.slice none 0 0, .int .i64 s, .int .i64 g, .int .i64 k, .int .i64 t] 1 (Nat.le_refl _) (by decide) (by simp), none, 0, [], rfl, IntsN.nil _ _ _, by simp, rfl⟩
/-- Way number k: its cells, and its list of lines, in each world in which the row stands. -/
theorem OwnWks.pick {w : World} {base : Nat} {A : Option Addr} {c : Nat} {ls : List Wk} (h : OwnWks w base A c ls) {k : Nat} {x : Wk} (hl : ls[k]? = some x) :
    ∃ b A' c', A = some ⟨b, 0, none⟩ ∧ base ≤ b ∧ b < w.heap.size ∧ x.way.length ≤ 1000 ∧ ∀ w', KeepIn base w w' → (w'.cell? ⟨b, k * 5, none⟩ = some (.slice A' x.way.length c') ∧ w'.cell? ⟨b, k * 5 + 1, none⟩ = some (.int .i64 x.stop) ∧ w'.cell? ⟨b, k * 5 + 2, none⟩ = some (.int .i64 x.gauge) ∧ w'.cell? ⟨b, k * 5 + 3, none⟩ = some (.int .i64 x.km) ∧
      w'.cell? ⟨b, k * 5 + 4, none⟩ = some (.int .i64 x.turn)) ∧ Ints w' w.heap.size A' x.way := by
  obtain ⟨cs, h1, h2⟩ := h
  obtain ⟨A', c', e1, e2, e3⟩ := h2.at_ hl
  have hkl : k < ls.length := (List.getElem?_eq_some_iff.1 hl).1
  rcases h1.2 with ⟨_, h3⟩ | ⟨g, cap, cur, hv, hb, hh, _⟩
  · omega
  · injection hv with hv _ _
    subst hv
    have hg := lt_of_block hh
    refine ⟨g, A', c', rfl, hb, hg, e3, fun w' hk => ⟨?_, fun i x hx => ?_⟩⟩
    · have hc : ∀ i v, (wkCell x A' c')[i]? = some v → w'.cell? ⟨g, k * 5 + i, none⟩ = some v := fun i v hv => by
        have hi : i < 5 := by have := (List.getElem?_eq_some_iff.1 hv).1; simpa [wkCell] using this
        refine (World.cell?_of_block (hk.block g hb hg)).trans ?_
        rw [World.ownsRow.cellAt (g := g) (n := ls.length) (cap := c) h1 (k * 5 + i) (by omega)]
        exact e1 i v hv
      exact ⟨hc 0 _ rfl, hc 1 _ rfl, hc 2 _ rfl, hc 3 _ rfl, hc 4 _ rfl⟩
    · obtain ⟨b2, off, f1, f2, f3, f4⟩ := e2 i x hx
      have hb2 : base ≤ b2 := Nat.le_of_not_lt fun e => f3 (.inl e)
      exact ⟨b2, off, f1, f2, (World.cell?_of_block (hk.block b2 hb2 f2)).trans f4⟩

/-- 'append(s, x)' of one way onto an own row of ways: x's cells lie in block b. -/
theorem wpl_app_wk {P : Program} {w : World} {ops : Array Oper} {rest : List Oper} {o : Oper} {a : Act} {Q : Exit → Act → World → Prop} (hgd : o.guard = none) (s x : Operand) (t : TypeId)
    (ho : o.op = .call { callee := .builtin .append, args := #[s, x], argTypes := #[t, t] })
    (base : Nat) (ht : P.underlying t = some (.slice 82)) (hi : (P.info? 82).map (fun i => (i.zero, i.size, i.bytes)) = some (some (.agg #[.slice none 0 0, .int .i64 0, .int .i64 0, .int .i64 0, .int .i64 0]), 5, 56))
    (A : Option Addr) (c : Nat) (ls : List Wk) (hs : a.eval s = .slice A ls.length c) (hown : OwnWks w base A c ls)
    (b c' : Nat) (y : Wk) (A' : Option Addr) (c2 : Nat) (hx : a.eval x = .slice (some ⟨b, 0, none⟩) 1 c') (hr : ∀ i v, (wkCell y A' c2)[i]? = some v → w.cell? ⟨b, i, none⟩ = some v)
    (hI : IntsN w (rowBlk base A) A' y.way) (hl : y.way.length ≤ 1000) (hlen : ls.length ≤ 1000000) (hbase : base ≤ w.heap.size)
    (h : ∀ A2 c3 w', OwnWks w' base A2 c3 (ls ++ [y]) → w.grownBy w' (Value.slice A ls.length c).ownBlock → wpList P ops Q rest (a.put o.dst (.slice A2 (ls.length + 1) c3)) w') : wpList P ops Q (o :: rest) a w := by
  obtain ⟨i, h1, h2, h3, h4⟩ := info_parts hi
  obtain ⟨cs, hrow, hcells⟩ := hown
  refine wpList_append_any w hgd s x t ho base 82 i _ 5 56 ht h1 h2 h3 h4 rfl (by omega) (.slice A ls.length c) ls.length cs hs hrow (b + 1) _ 1 c' (wkCell y A' c2) hx
    ⟨by simp [wkCell], fun _ => ⟨_, rfl, by show b < b + 1; omega, fun j u hj => by
      have := hr j u hj
      rw [Go.WideShapes.add_plain, Nat.zero_add]
      exact this⟩⟩
    (by intro u hu; simp only [wkCell, List.mem_cons, List.not_mem_nil, or_false] at hu; rcases hu with rfl | rfl | rfl | rfl | rfl <;> rfl) (by simp only [maxLen]; omega) (by omega) hbase ?_
  intro v' w' hown' hg hat
  obtain ⟨A2, c3, rfl⟩ := own_slice hown'
  rw [ownBlock_slice, ownBlock_slice] at hat
  have hk : ∀ b, b < w.heap.size → ¬ rowBlk base A b → ¬ rowBlk base A2 b ∧ w'.heap[b]? = w.heap[b]? := by
    intro b hb hn
    refine ⟨fun e => ?_, hg.block b hb (by rw [ownBlock_slice]; exact fun e => hn (.inr e))⟩
    rcases e with e | e
    · exact hn (.inl e)
    · rcases hat with h | h
      · exact hn (.inr (by rw [e, h]))
      · rw [h] at e; injection e with e; omega
  exact h A2 c3 w' ⟨cs ++ wkCell y A' c2, by simpa using hown', WkCells.snoc (hI.keep hk) hl (hcells.keep hk)⟩ hg
end Go.Proofs.Ytpbjpochjagicaa
