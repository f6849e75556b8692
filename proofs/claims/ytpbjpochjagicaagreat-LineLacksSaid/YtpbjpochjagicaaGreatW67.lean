/- Own rows of lists of integers: [][]int that a call makes; 'append' of a list onto such a row. -/
import Derived.Test.YtpbjpochjagicaaGreatW28
import Derived.Test.YtpbjpochjagicaaGreatOt
namespace Go.Proofs.YtpbjpochjagicaaGreat
open Go.RowKit

/-- The cells of lists in a row; the lists themselves lie elsewhere. -/
def RowCells (w : World) (S : Nat → Prop) : List (List Int) → List Value → Prop
  | [], cs => cs = []
  | l :: ls, cs => ∃ A c rest, cs = .slice A l.length c :: rest ∧ IntsN w S A l ∧ l.length ≤ 1000 ∧ RowCells w S ls rest
theorem RowCells.length {w : World} {S : Nat → Prop} : ∀ {ls : List (List Int)} {cs : List Value}, RowCells w S ls cs → cs.length = ls.length
  | [], cs, h => by rw [show cs = [] from h]; rfl
  | l :: ls, cs, h => by
    obtain ⟨A, c, rest, rfl, _, _, h3⟩ := h
    have := RowCells.length h3
    simp only [List.length_cons]
    omega
theorem RowCells.keep {w w' : World} {S S' : Nat → Prop} (hk : ∀ b, b < w.heap.size → ¬ S b → ¬ S' b ∧ w'.heap[b]? = w.heap[b]?) : ∀ {ls : List (List Int)} {cs : List Value}, RowCells w S ls cs → RowCells w' S' ls cs
  | [], cs, h => h
  | l :: ls, cs, h => by
    obtain ⟨A, c, rest, e, h1, h2, h3⟩ := h
    exact ⟨A, c, rest, e, h1.keep hk, h2, RowCells.keep hk h3⟩
theorem RowCells.snoc {w : World} {S : Nat → Prop} {l : List Int} {A : Option Addr} {c : Nat} (hI : IntsN w S A l) (hl : l.length ≤ 1000) : ∀ {ls : List (List Int)} {cs : List Value}, RowCells w S ls cs →
    RowCells w S (ls ++ [l]) (cs ++ [.slice A l.length c])
  | [], cs, h => by rw [show cs = [] from h]; exact ⟨A, c, [], rfl, hI, hl, rfl⟩
  | u :: ls, cs, h => by
    obtain ⟨A', c', rest, rfl, h1, h2, h3⟩ := h
    exact ⟨A', c', _, rfl, h1, h2, RowCells.snoc hI hl h3⟩
theorem RowCells.at_ {w : World} {S : Nat → Prop} : ∀ {ls : List (List Int)} {cs : List Value}, RowCells w S ls cs → ∀ {k : Nat} {l : List Int}, ls[k]? = some l →
    ∃ A c, cs[k]? = some (.slice A l.length c) ∧ IntsN w S A l ∧ l.length ≤ 1000
  | [], cs, h, k, l, ht => by simp at ht
  | u :: ls, cs, h, 0, l, ht => by
    obtain ⟨A, c, rest, rfl, h1, h2, h3⟩ := h
    simp at ht; subst ht
    exact ⟨A, c, rfl, h1, h2⟩
  | u :: ls, cs, h, k + 1, l, ht => by
    obtain ⟨A, c, rest, rfl, h1, h2, h3⟩ := h
    obtain ⟨A', c', e1, e2, e3⟩ := RowCells.at_ h3 (k := k) (by simpa using ht)
    exact ⟨A', c', by simpa using e1, e2, e3⟩
theorem RowCells.one {w : World} {S : Nat → Prop} : ∀ {ls : List (List Int)} {cs : List Value}, RowCells w S ls cs → ∀ u ∈ cs, u.oneCell' = true
  | [], cs, h, u, hu => by rw [show cs = [] from h] at hu; cases hu
  | l :: ls, cs, h, u, hu => by
    obtain ⟨A, c, rest, rfl, _, _, h3⟩ := h
    rcases List.mem_cons.1 hu with rfl | hu
    · rfl
    · exact RowCells.one h3 u hu

/-- Where a row's lists do not lie: ahead of base, and in the row's own array. -/
def rowBlk (base : Nat) (A : Option Addr) (k : Nat) : Prop := k < base ∨ some k = A.map (·.block)
/-- An own row of lists; the lists too lie in memory from base on. -/
def OwnRows (w : World) (base : Nat) (A : Option Addr) (c : Nat) (ls : List (List Int)) : Prop :=
  ∃ cs, w.ownsRow base 23 1 (.slice A ls.length c) ls.length cs ∧ RowCells w (rowBlk base A) ls cs
theorem row_info : (Tryz.prog.info? 23).map (fun i => (i.zero, i.size, i.bytes)) = some (some (.slice none 0 0), 1, 24) := by kernel_rfl
theorem OwnRows.nil (w : World) (base : Nat) : OwnRows w base none 0 [] := ⟨[], ⟨by simp, .inl ⟨rfl, rfl⟩⟩, rfl⟩
/-- The cell of list number k, and the list, in a world in which the blocks from base on are still as they were. -/
theorem OwnRows.at_ {w w' : World} {base : Nat} {A : Option Addr} {c : Nat} {ls : List (List Int)} (h : OwnRows w base A c ls) (hk : ∀ b, base ≤ b → b < w.heap.size → w'.heap[b]? = w.heap[b]?) (_hs : w.heap.size ≤ w'.heap.size) {k : Nat} {l : List Int} (hl : ls[k]? = some l) :
    ∃ b A' c', A = some ⟨b, 0, none⟩ ∧ base ≤ b ∧ b < w.heap.size ∧ w'.cell? ⟨b, k, none⟩ = some (.slice A' l.length c') ∧ Ints w' w.heap.size A' l ∧ l.length ≤ 1000 := by
  obtain ⟨cs, h1, h2⟩ := h
  obtain ⟨A', c', e1, e2, e3⟩ := h2.at_ hl
  have hkl : k < ls.length := (List.getElem?_eq_some_iff.1 hl).1
  rcases h1.2 with ⟨_, h3⟩ | ⟨g, cap, cur, hv, hb, hh, _⟩
  · omega
  · injection hv with hv _ _
    subst hv
    have hc := World.ownsRow.cellAt (g := g) (n := ls.length) (cap := c) h1 k (by omega)
    have hg := lt_of_block hh
    refine ⟨g, A', c', rfl, hb, hg, (World.cell?_of_block (hk g hb hg)).trans (by rw [hc]; exact e1), fun i x hx => ?_, e3⟩
    obtain ⟨b2, off, f1, f2, f3, f4⟩ := e2 i x hx
    have hb2 : base ≤ b2 := Nat.le_of_not_lt fun e => f3 (.inl e)
    exact ⟨b2, off, f1, f2, (World.cell?_of_block (hk b2 hb2 f2)).trans f4⟩
theorem OwnRows.block {w : World} {base : Nat} {A : Option Addr} {c : Nat} {ls : List (List Int)} (h : OwnRows w base A c ls) : ∀ q, A = some q → base ≤ q.block ∧ q.block < w.heap.size := by
  obtain ⟨cs, h1, h2⟩ := h
  intro q hq
  subst hq
  rcases h1.2 with ⟨hv, _⟩ | ⟨g, cap, cur, hv, hb, hh, _⟩
  · cases hv
  · injection hv with hv _ _
    injection hv with hv
    subst hv
    exact ⟨hb, lt_of_block hh⟩
theorem OwnRows.keep {w w' : World} {base : Nat} {A : Option Addr} {c : Nat} {ls : List (List Int)} (h : OwnRows w base A c ls) (hk : ∀ b, b < w.heap.size → w'.heap[b]? = w.heap[b]?) : OwnRows w' base A c ls := by
  obtain ⟨cs, h1, h2⟩ := h
  refine ⟨cs, ⟨h1.1, ?_⟩, h2.keep fun b hb hs => ⟨hs, hk b hb⟩⟩
  rcases h1.2 with h3 | ⟨g, cap, cur, hv, hb, hh, r⟩
  · exact .inl h3
  · exact .inr ⟨g, cap, cur, hv, hb, (hk g (lt_of_block hh)).trans hh, r⟩
theorem OwnRows.below {w w' : World} {base B : Nat} {A : Option Addr} {c : Nat} {ls : List (List Int)} (h : OwnRows w base A c ls) (hb : Below B w w') (hB : w.heap.size ≤ B) : OwnRows w' base A c ls :=
  h.keep fun b hlt => hb.block b (by omega)
theorem OwnRows.alloc {w : World} {base : Nat} {A : Option Addr} {c : Nat} {ls : List (List Int)} (h : OwnRows w base A c ls) (o : Obj) : OwnRows (w.alloc o) base A c ls :=
  h.keep fun _ hlt => Below.heap_alloc _ _ _ hlt
theorem RowCells.weaken {w : World} {S S' : Nat → Prop} (hS : ∀ b, ¬ S b → ¬ S' b) : ∀ {ls : List (List Int)} {cs : List Value}, RowCells w S ls cs → RowCells w S' ls cs := RowCells.keep fun b _ h => ⟨hS b h, rfl⟩
theorem OwnRows.weaken {w : World} {base base2 : Nat} {A : Option Addr} {c : Nat} {ls : List (List Int)} (h : OwnRows w base2 A c ls) (hb : base ≤ base2) : OwnRows w base A c ls := by
  obtain ⟨cs, h1, h2⟩ := h
  refine ⟨cs, ⟨h1.1, ?_⟩, h2.weaken fun b hn => ?_⟩
  · rcases h1.2 with h3 | ⟨g, cap, cur, hv, hg, r⟩
    · exact .inl h3
    · exact .inr ⟨g, cap, cur, hv, Nat.le_trans hb hg, r⟩
  · rintro (e | e)
    · exact hn (.inl (by omega))
    · exact hn (.inr e)
theorem OwnRows.drew {w : World} {base : Nat} {A : Option Addr} {c : Nat} {ls : List (List Int)} (h : OwnRows w base A c ls) : OwnRows w.drew base A c ls := h.keep fun _ _ => rfl
theorem OwnRows.from_ {w : World} {base : Nat} {A : Option Addr} {c : Nat} {ls : List (List Int)} (h : OwnRows w base A c ls) : ∀ k, (Value.slice A ls.length c).ownBlock = some k → base ≤ k := by
  obtain ⟨cs, h1, _⟩ := h
  intro k hk
  rcases h1.2 with ⟨hv, _⟩ | ⟨g, cap, cur, hv, hg, _⟩
  · injection hv with hv _ _
    subst hv
    simp [Value.ownBlock] at hk
  · injection hv with hv _ _
    subst hv
    simp [Value.ownBlock] at hk
    omega

/-- 'append(s, l)' of one list onto an own row of lists: l's header lies in block b. -/
theorem step_app_row {P : Program} {w : World} {ops : Array Oper} {o : Oper} {a : Act} {K : Act → World → Prop} {Q : Exit → Act → World → Prop} {E : Prop} (hgd : o.guard = none) (s x : Operand) (t : TypeId)
    (ho : o.op = .call { callee := .builtin .append, args := #[s, x], argTypes := #[t, t] })
    (base : Nat) (ht : P.underlying t = some (.slice 23)) (hi : (P.info? 23).map (fun i => (i.zero, i.size, i.bytes)) = some (some (.slice none 0 0), 1, 24))
    (A : Option Addr) (c : Nat) (ls : List (List Int)) (hs : a.eval s = .slice A ls.length c) (hown : OwnRows w base A c ls)
    (b c' : Nat) (l : List Int) (A' : Option Addr) (c2 : Nat) (hx : a.eval x = .slice (some ⟨b, 0, none⟩) 1 c') (hr : w.cell? ⟨b, 0, none⟩ = some (.slice A' l.length c2))
    (hI : IntsN w (rowBlk base A) A' l) (hl : l.length ≤ 1000) (hlen : ls.length ≤ 1000000) (hbase : base ≤ w.heap.size)
    (h : ∀ A2 c3 w', OwnRows w' base A2 c3 (ls ++ [l]) → w.grownBy w' (Value.slice A ls.length c).ownBlock → (A2.map (·.block) = A.map (·.block) ∨ A2.map (·.block) = some w.heap.size) →
      K (a.put o.dst (.slice A2 (ls.length + 1) c3)) w') : if Region.wanted o (yielded ops a.tmps) = true then Oper.wp P o a w K Q else E := by
  obtain ⟨i, h1, h2, h3, h4⟩ := info_parts hi
  obtain ⟨cs, hrow, hcells⟩ := hown
  refine step_append_any w hgd s x t ho base 23 i _ 1 24 ht h1 h2 h3 h4 rfl (by omega) (.slice A ls.length c) ls.length cs hs hrow (b + 1) _ 1 c' [.slice A' l.length c2] hx
    ⟨by simp, fun _ => ⟨_, rfl, by show b < b + 1; omega, fun j u hj => by
      rcases j with _ | j
      · simp at hj; subst hj; exact hr
      · simp at hj⟩⟩
    (by intro u hu; simp at hu; subst hu; rfl) (by simp only [maxLen]; omega) (by omega) hbase ?_
  intro v' w' hown' hg hat
  obtain ⟨A2, c3, rfl⟩ := own_slice hown'
  rw [ownBlock_slice, ownBlock_slice] at hat
  have hk : ∀ b, b < w.heap.size → ¬ rowBlk base A b → ¬ rowBlk base A2 b ∧ w'.heap[b]? = w.heap[b]? := by
    intro b hb hn
    refine ⟨fun e => ?_, hg.block b hb (by rw [ownBlock_slice]; exact fun e => hn (.inr e))⟩
    rcases e with e | e
    · exact hn (.inl e)
    · rcases hat with h | h
      · exact hn (.inr (by rw [e, h]))
      · rw [h] at e; injection e with e; omega
  refine h A2 c3 w' ⟨cs ++ [.slice A' l.length c2], by simpa using hown', RowCells.snoc (hI.keep hk) hl (hcells.keep hk)⟩ hg hat
/-- A fresh row of one list without elements. -/
theorem OwnRows.lit (w : World) : OwnRows (w.alloc (.cells #[.slice none 0 0] 23)) w.heap.size (some ⟨w.heap.size, 0, none⟩) 1 [[]] :=
  ⟨[.slice none 0 0], World.ownsRow_lit w #[.slice none 0 0] 1 (Nat.le_refl _) (by decide) (by simp), none, 0, [], rfl, IntsN.nil _ _ _, by simp, rfl⟩
/-- 'append(s, x...)' of integers onto an own row, in a region that draws its order. -/
theorem step_app_ints {P : Program} {w : World} {ops : Array Oper} {o : Oper} {a : Act} {K : Act → World → Prop} {Q : Exit → Act → World → Prop} {E : Prop} (hgd : o.guard = none) (s x : Operand) (t : TypeId)
    (ho : o.op = .call { callee := .builtin .append, args := #[s, x], argTypes := #[t, t] })
    (base : Nat) (ht : P.underlying t = some (.slice 3)) (hi : (P.info? 3).map (fun i => (i.zero, i.size, i.bytes)) = some (some (.int .i64 0), 1, 8))
    (A : Option Addr) (c : Nat) (xs : List Int) (hs : a.eval s = .slice A xs.length c) (hown : OwnInts w base A c xs)
    (B : Nat) (A' : Option Addr) (c' : Nat) (ys : List Int) (hx : a.eval x = .slice A' ys.length c') (hr : Ints w B A' ys)
    (hlen : (xs.length + ys.length) * 8 ≤ 140737488355328) (hbase : base ≤ w.heap.size)
    (h : ∀ A2 c2 w', OwnInts w' base A2 c2 (xs ++ ys) → w.grownBy w' (Value.slice A xs.length c).ownBlock → K (a.put o.dst (.slice A2 (xs ++ ys).length c2)) w') :
    if Region.wanted o (yielded ops a.tmps) = true then Oper.wp P o a w K Q else E := by
  obtain ⟨i, h1, h2, h3, h4⟩ := info_parts hi
  refine step_append_any w hgd s x t ho base 3 i (.int .i64 0) 1 8 ht h1 h2 h3 h4 rfl (by omega) (.slice A xs.length c) xs.length (xs.map (Value.int .i64)) hs hown B A' ys.length c' (ys.map (Value.int .i64)) hx hr.reads
    (fun u hu => by simp at hu; obtain ⟨n, _, rfl⟩ := hu; rfl) (by simp only [maxLen]; omega) (by omega) hbase ?_
  intro v' w' hown' hg hat
  obtain ⟨A2, c2, rfl⟩ := own_slice hown'
  rw [← List.map_append] at hown'
  have hl : xs.length + ys.length = (xs ++ ys).length := by simp
  rw [hl] at hown' ⊢
  exact h A2 c2 w' hown' hg
/-- A fresh row of one number. -/
theorem own_one (w : World) (x : Int) : OwnInts (w.alloc (.cells #[.int .i64 x] 3)) w.heap.size (some ⟨w.heap.size, 0, none⟩) 1 [x] := World.ownsRow_lit w #[.int .i64 x] 1 (Nat.le_refl _) (by decide) (by simp)

/-- The blocks from B on that were made in wb are as they were. -/
structure KeepIn (B : Nat) (wb wi : World) : Prop where
  size : wb.heap.size ≤ wi.heap.size
  block : ∀ b, B ≤ b → b < wb.heap.size → wi.heap[b]? = wb.heap[b]?
theorem KeepIn.refl (B : Nat) (w : World) : KeepIn B w w := ⟨Nat.le_refl _, fun _ _ _ => rfl⟩
theorem KeepIn.below {B B' : Nat} {wb wi w' : World} (h : KeepIn B wb wi) (hb : Below B' wi w') (hB : wi.heap.size ≤ B') : KeepIn B wb w' :=
  ⟨Nat.le_trans h.size hb.size, fun b h1 h2 => (hb.block b (by have := h.size; omega)).trans (h.block b h1 h2)⟩
theorem KeepIn.grown {B : Nat} {wb wi w' : World} {row : Option Nat} (h : KeepIn B wb wi) (hg : wi.grownBy w' row) (hr : ∀ k, row = some k → k < B ∨ wb.heap.size ≤ k) : KeepIn B wb w' :=
  ⟨Nat.le_trans h.size hg.size, fun b h1 h2 => (hg.block b (by have := h.size; omega) (fun e => by have := hr b e.symm; omega)).trans (h.block b h1 h2)⟩
/-- List number k of a row, in whatever world keeps the row's blocks. -/
theorem OwnRows.pick {w : World} {base : Nat} {A : Option Addr} {c : Nat} {ls : List (List Int)} (h : OwnRows w base A c ls) {k : Nat} {l : List Int} (hl : ls[k]? = some l) :
    ∃ b A' c', A = some ⟨b, 0, none⟩ ∧ base ≤ b ∧ b < w.heap.size ∧ l.length ≤ 1000 ∧ ∀ w', KeepIn base w w' → w'.cell? ⟨b, k, none⟩ = some (.slice A' l.length c') ∧ Ints w' w.heap.size A' l := by
  obtain ⟨b, A', c', e1, e2, e3, e4, e5, e6⟩ := h.at_ (fun _ _ _ => rfl) (Nat.le_refl _) hl
  refine ⟨b, A', c', e1, e2, e3, e6, fun w' hk => ?_⟩
  obtain ⟨b', A2, c2, f1, _, _, f4, f5, _⟩ := h.at_ hk.block hk.size hl
  rw [e1] at f1
  injection f1 with f1
  injection f1 with f1 _ _
  subst f1
  have hc : w'.cell? ⟨b, k, none⟩ = w.cell? ⟨b, k, none⟩ := World.cell?_of_block (hk.block b e2 e3)
  rw [hc, e4] at f4
  injection f4 with f4
  injection f4 with f4 _ f6
  subst f4 f6
  exact ⟨hc.trans e4, f5⟩
end Go.Proofs.YtpbjpochjagicaaGreat
