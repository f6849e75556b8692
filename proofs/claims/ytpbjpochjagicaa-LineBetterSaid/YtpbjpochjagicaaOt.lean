/- Walks: own rows of lines. -/
import Derived.Test.YtpbjpochjagicaaW8
import Derived.Test.YtpbjpochjagicaaAp
namespace Go.Proofs.Ytpbjpochjagicaa
open Go.RowKit

/-- An own row of lines. -/
def OwnTrks (w : World) (base : Nat) (A : Option Addr) (c : Nat) (ts : List Pl.Trk) : Prop := w.ownsRow base 47 9 (.slice A ts.length c) ts.length (ts.flatMap trkCells)
theorem trk_info : (Try.prog.info? 47).map (fun i => (i.zero, i.size, i.bytes)) = some (some (.agg #[.int .i64 0, .int .i64 0, .int .i64 0, .int .i64 0, .int .i64 0, .int .i64 0, .int .i64 0, .int .i64 0, .bool false]), 9, 72) := by kernel_rfl
theorem flat_at : ∀ (ts : List Pl.Trk) (k j : Nat) (t : Pl.Trk), j < 9 → ts[k]? = some t → (ts.flatMap trkCells)[k * 9 + j]? = (trkCells t)[j]?
  | [], k, j, t, _, h => by simp at h
  | x :: l, 0, j, t, hj, h => by
    simp at h
    subst h
    rw [List.flatMap_cons, List.getElem?_append_left (by simp [trkCells]; omega)]
    simp
  | x :: l, k + 1, j, t, hj, h => by
    rw [List.flatMap_cons, List.getElem?_append_right (by simp [trkCells]; omega)]
    have e : (k + 1) * 9 + j - (trkCells x).length = k * 9 + j := by simp [trkCells]; omega
    rw [e]
    exact flat_at l k j t hj (by simpa using h)
theorem OwnTrks.trks {w : World} {base : Nat} {A : Option Addr} {c : Nat} {ts : List Pl.Trk} (h : OwnTrks w base A c ts) : Trks w w.heap.size A ts := fun k t hk => by
  have hkl : k < ts.length := (List.getElem?_eq_some_iff.1 hk).1
  rcases h.2 with ⟨_, h2⟩ | ⟨g, cap, cur, hv, _, hh, _⟩
  · omega
  · injection hv with hv _ _
    subst hv
    refine ⟨g, 0, rfl, lt_of_block hh, fun j v hj => ?_⟩
    have hj9 : j < 9 := by have := (List.getElem?_eq_some_iff.1 hj).1; simpa [trkCells] using this
    rw [World.ownsRow.cellAt (g := g) (n := ts.length) (cap := c) h (0 + k * 9 + j) (by omega), Nat.zero_add, flat_at ts k j t hj9 hk]
    exact hj
theorem OwnTrks.nil (w : World) (base : Nat) : OwnTrks w base none 0 [] := ⟨by simp, .inl ⟨rfl, rfl⟩⟩
theorem trk_reads {w : World} {b B : Nat} {t : Pl.Trk} (h : ∀ j u, (trkCells t)[j]? = some u → w.cell? ⟨b, j, none⟩ = some u) (hb : b < B) : Reads w B 9 (some ⟨b, 0, none⟩) 1 (trkCells t) := by
  refine ⟨by simp [trkCells], fun _ => ⟨⟨b, 0, none⟩, rfl, hb, fun j u hu => ?_⟩⟩
  have := h j u hu
  unfold Addr.add
  split
  · rename_i h0; subst h0; exact this
  · simpa using this
theorem trk_one {t : Pl.Trk} : ∀ u ∈ trkCells t, u.oneCell' = true := by
  intro u hu
  simp [trkCells] at hu
  rcases hu with rfl | rfl | rfl | rfl | rfl | rfl | rfl | rfl | rfl <;> rfl

/-- 'append' of a line onto an own row. -/
theorem wpl_app_trk {P : Program} {w : World} {ops : Array Oper} {rest : List Oper} {o : Oper} {a : Act} {Q : Exit → Act → World → Prop} (hgd : o.guard = none) (s x : Operand) (t : TypeId)
    (ho : o.op = .call { callee := .builtin .append, args := #[s, x], argTypes := #[t, t] })
    (base : Nat) (ht : P.underlying t = some (.slice 47))
    (hi : (P.info? 47).map (fun i => (i.zero, i.size, i.bytes)) = some (some (.agg #[.int .i64 0, .int .i64 0, .int .i64 0, .int .i64 0, .int .i64 0, .int .i64 0, .int .i64 0, .int .i64 0, .bool false]), 9, 72))
    (A : Option Addr) (c : Nat) (ts : List Pl.Trk) (hs : a.eval s = .slice A ts.length c) (hown : OwnTrks w base A c ts)
    (b c' : Nat) (tr : Pl.Trk) (hx : a.eval x = .slice (some ⟨b, 0, none⟩) 1 c') (hr : ∀ j u, (trkCells tr)[j]? = some u → w.cell? ⟨b, j, none⟩ = some u)
    (hlen : ts.length ≤ 1000) (hbase : base ≤ w.heap.size)
    (h : ∀ A2 c2 w', OwnTrks w' base A2 c2 (ts ++ [tr]) → w.grownBy w' (Value.slice A ts.length c).ownBlock →
      wpList P ops Q rest (a.put o.dst (.slice A2 (ts.length + 1) c2)) w') : wpList P ops Q (o :: rest) a w := by
  obtain ⟨i, h1, h2, h3, h4⟩ := info_parts hi
  refine wpList_append_any w hgd s x t ho base 47 i _ 9 72 ht h1 h2 h3 h4 rfl (by omega) (.slice A ts.length c) ts.length (ts.flatMap trkCells) hs hown (b + 1) _ 1 c' (trkCells tr) hx (trk_reads hr (by omega))
    trk_one (by simp only [maxLen]; omega) (by omega) hbase ?_
  intro v' w' hown' hg _
  obtain ⟨A2, c2, rfl⟩ := own_slice hown'
  refine h A2 c2 w' ?_ hg
  unfold OwnTrks
  simpa [List.flatMap_append] using hown'

end Go.Proofs.Ytpbjpochjagicaa
