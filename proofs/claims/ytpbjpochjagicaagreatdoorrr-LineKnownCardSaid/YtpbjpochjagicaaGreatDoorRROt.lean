/- Walks: own rows of lines. Walks: a list of lines is copied. -/
import Derived.Test.YtpbjpochjagicaaGreatDoorRRW8
import Derived.Test.YtpbjpochjagicaaGreatDoorRRWd
import Derived.Deep.RegionLaw
import Derived.Lib.LazyBuf
import Derived.Deep.RegionLawGrows
import Derived.IntWalk
namespace Go.Proofs.YtpbjpochjagicaaGreatDoorRR
open Go.RowKit

/-- An own row of lines. -/
def OwnTrks (w : World) (base : Nat) (A : Option Addr) (c : Nat) (ts : List Pl.Trk) : Prop := w.ownsRow base 31 9 (.slice A ts.length c) ts.length (ts.flatMap trkCells)
theorem trk_info : (Tryz.prog.info? 31).map (fun i => (i.zero, i.size, i.bytes)) = some (some (.agg #[.int .i64 0, .int .i64 0, .int .i64 0, .int .i64 0, .int .i64 0, .int .i64 0, .int .i64 0, .int .i64 0, .bool false]), 9, 72) := by kernel_rfl
theorem flat_at : ∀ (ts : List Pl.Trk) (k j : Nat) (t : Pl.Trk), j < 9 → ts[k]? = some t → (ts.flatMap trkCells)[k * 9 + j]? = (trkCells t)[j]?
  | [], k, j, t, _, h => by simp at h
  | x :: l, 0, j, t, hj, h => by
    simp at h
    subst h
    rw [List.flatMap_cons, List.getElem?_append_left (by simp [trkCells]; omega)]
    simp
  | x :: l, k + 1, j, t, hj, h => by
    rw [List.flatMap_cons, List.getElem?_append_right (by simp [trkCells]; omega)]
    have e : (k + 1) * 9 + j - (trkCells x).length = k * 9 + j := by simp [trkCells]; omega
    rw [e]
    exact flat_at l k j t hj (by simpa using h)
theorem OwnTrks.trks {w : World} {base : Nat} {A : Option Addr} {c : Nat} {ts : List Pl.Trk} (h : OwnTrks w base A c ts) : Trks w w.heap.size A ts := fun k t hk => by
  have hkl : k < ts.length := (List.getElem?_eq_some_iff.1 hk).1
  rcases h.2 with ⟨_, h2⟩ | ⟨g, cap, cur, hv, _, hh, _⟩
  · omega
  · injection hv with hv _ _
    subst hv
    refine ⟨g, 0, rfl, lt_of_block hh, fun j v hj => ?_⟩
    have hj9 : j < 9 := by have := (List.getElem?_eq_some_iff.1 hj).1; simpa [trkCells] using this
    rw [World.ownsRow.cellAt (g := g) (n := ts.length) (cap := c) h (0 + k * 9 + j) (by omega), Nat.zero_add, flat_at ts k j t hj9 hk]
    exact hj
theorem OwnTrks.nil (w : World) (base : Nat) : OwnTrks w base none 0 [] := ⟨by simp, .inl ⟨rfl, rfl⟩⟩
theorem trk_reads {w : World} {b B : Nat} {t : Pl.Trk} (h : ∀ j u, (trkCells t)[j]? = some u → w.cell? ⟨b, j, none⟩ = some u) (hb : b < B) : Reads w B 9 (some ⟨b, 0, none⟩) 1 (trkCells t) := by
  refine ⟨by simp [trkCells], fun _ => ⟨⟨b, 0, none⟩, rfl, hb, fun j u hu => ?_⟩⟩
  have := h j u hu
  unfold Addr.add
  split
  · rename_i h0; subst h0; exact this
  · simpa using this
theorem trk_one {t : Pl.Trk} : ∀ u ∈ trkCells t, u.oneCell' = true := by
  intro u hu
  simp [trkCells] at hu
  rcases hu with rfl | rfl | rfl | rfl | rfl | rfl | rfl | rfl | rfl <;> rfl

/-- 'append' of a line onto an own row. -/
theorem wpl_app_trk {P : Program} {w : World} {ops : Array Oper} {rest : List Oper} {o : Oper} {a : Act} {Q : Exit → Act → World → Prop} (hgd : o.guard = none) (s x : Operand) (t : TypeId)
    (ho : o.op = .call { callee := .builtin .append, args := #[s, x], argTypes := #[t, t] })
    (base : Nat) (ht : P.underlying t = some (.slice 31))
    (hi : (P.info? 31).map (fun i => (i.zero, i.size, i.bytes)) = some (some (.agg #[.int .i64 0, .int .i64 0, .int .i64 0, .int .i64 0, .int .i64 0, .int .i64 0, .int .i64 0, .int .i64 0, .bool false]), 9, 72))
    (A : Option Addr) (c : Nat) (ts : List Pl.Trk) (hs : a.eval s = .slice A ts.length c) (hown : OwnTrks w base A c ts)
    (b c' : Nat) (tr : Pl.Trk) (hx : a.eval x = .slice (some ⟨b, 0, none⟩) 1 c') (hr : ∀ j u, (trkCells tr)[j]? = some u → w.cell? ⟨b, j, none⟩ = some u)
    (hlen : ts.length ≤ 1000) (hbase : base ≤ w.heap.size)
    (h : ∀ A2 c2 w', OwnTrks w' base A2 c2 (ts ++ [tr]) → w.grownBy w' (Value.slice A ts.length c).ownBlock →
      wpList P ops Q rest (a.put o.dst (.slice A2 (ts.length + 1) c2)) w') : wpList P ops Q (o :: rest) a w := by
  obtain ⟨i, h1, h2, h3, h4⟩ := info_parts hi
  refine wpList_append_any w hgd s x t ho base 31 i _ 9 72 ht h1 h2 h3 h4 rfl (by omega) (.slice A ts.length c) ts.length (ts.flatMap trkCells) hs hown (b + 1) _ 1 c' (trkCells tr) hx (trk_reads hr (by omega))
    trk_one (by simp only [maxLen]; omega) (by omega) hbase ?_
  intro v' w' hown' hg _
  obtain ⟨A2, c2, rfl⟩ := own_slice hown'
  refine h A2 c2 w' ?_ hg
  unfold OwnTrks
  simpa [List.flatMap_append] using hown'

end Go.Proofs.YtpbjpochjagicaaGreatDoorRR

namespace Go.Proofs.YtpbjpochjagicaaGreatDoorRR
open Go.RowKit

theorem flat_length (ts : List Pl.Trk) : (ts.flatMap trkCells).length = ts.length * 9 := by
  induction ts with
  | nil => rfl
  | cons t l ih => rw [List.flatMap_cons, List.length_append, ih, List.length_cons]; simp [trkCells]; omega
theorem flat_one {ts : List Pl.Trk} : ∀ u ∈ ts.flatMap trkCells, u.oneCell' = true := fun u hu => by
  obtain ⟨t, _, h⟩ := List.mem_flatMap.1 hu
  exact trk_one u h
theorem flat_div {ts : List Pl.Trk} {j : Nat} {u : Value} (h : (ts.flatMap trkCells)[j]? = some u) : ∃ k i t, j = k * 9 + i ∧ i < 9 ∧ ts[k]? = some t ∧ (trkCells t)[i]? = some u := by
  have hj : j < ts.length * 9 := by rw [← flat_length]; exact (List.getElem?_eq_some_iff.1 h).1
  have hk : j / 9 < ts.length := by omega
  refine ⟨j / 9, j % 9, ts[j / 9], by omega, by omega, List.getElem?_eq_getElem hk, ?_⟩
  rw [← flat_at ts (j / 9) (j % 9) ts[j / 9] (by omega) (List.getElem?_eq_getElem hk), show j / 9 * 9 + j % 9 = j by omega]
  exact h
theorem Trks.reads {w : World} {B : Nat} {A : Option Addr} {ts : List Pl.Trk} (h : Trks w B A ts) : Reads w B 9 A ts.length (ts.flatMap trkCells) := by
  refine ⟨flat_length ts, fun h0 => ?_⟩
  obtain ⟨b, off, rfl, hb, _⟩ := h 0 ts[0] (List.getElem?_eq_getElem h0)
  refine ⟨⟨b, off, none⟩, rfl, hb, fun j u hu => ?_⟩
  obtain ⟨k, i, t, rfl, hi, hk, ht⟩ := flat_div hu
  obtain ⟨b', off', he, _, hc⟩ := h k t hk
  injection he with he
  injection he with h1 h2 _
  subst h1 h2
  have := hc i u ht
  rw [show (Addr.add ⟨b, off, none⟩ (k * 9 + i)) = ⟨b, off + k * 9 + i, none⟩ by unfold Addr.add; split <;> simp_all <;> omega]
  exact this

/-- 'append(s, x...)' of lines onto an own row. -/
theorem wpl_app_trks {P : Program} {w : World} {ops : Array Oper} {rest : List Oper} {o : Oper} {a : Act} {Q : Exit → Act → World → Prop} (hgd : o.guard = none) (s x : Operand) (t : TypeId)
    (ho : o.op = .call { callee := .builtin .append, args := #[s, x], argTypes := #[t, t] })
    (base : Nat) (ht : P.underlying t = some (.slice 31))
    (hi : (P.info? 31).map (fun i => (i.zero, i.size, i.bytes)) = some (some (.agg #[.int .i64 0, .int .i64 0, .int .i64 0, .int .i64 0, .int .i64 0, .int .i64 0, .int .i64 0, .int .i64 0, .bool false]), 9, 72))
    (A : Option Addr) (c : Nat) (ts : List Pl.Trk) (hs : a.eval s = .slice A ts.length c) (hown : OwnTrks w base A c ts)
    (B : Nat) (A' : Option Addr) (m c' : Nat) (cs : List Value) (hx : a.eval x = .slice A' m c') (hr : Reads w B 9 A' m cs) (h1c : ∀ u ∈ cs, u.oneCell' = true)
    (hlen : ts.length + m ≤ 1000) (hbase : base ≤ w.heap.size)
    (h : ∀ A2 c2 w', w'.ownsRow base 31 9 (.slice A2 (ts.length + m) c2) (ts.length + m) (ts.flatMap trkCells ++ cs) → w.grownBy w' (Value.slice A ts.length c).ownBlock →
      wpList P ops Q rest (a.put o.dst (.slice A2 (ts.length + m) c2)) w') : wpList P ops Q (o :: rest) a w := by
  obtain ⟨i, h1, h2, h3, h4⟩ := info_parts hi
  refine wpList_append_any w hgd s x t ho base 31 i _ 9 72 ht h1 h2 h3 h4 rfl (by omega) (.slice A ts.length c) ts.length (ts.flatMap trkCells) hs hown B A' m c' cs hx hr
    h1c (by simp only [maxLen]; omega) (by omega) hbase ?_
  intro v' w' hown' hg _
  obtain ⟨A2, c2, rfl⟩ := own_slice hown'
  exact h A2 c2 w' hown' hg

def TrksPost (ts : List Pl.Trk) (w : World) (e : Ending) (w' : World) : Prop := ∃ A c, e = .returned (.slice A ts.length c) ∧ OwnTrks w' w.heap.size A c ts ∧ Below w.heap.size w w'
set_option maxRecDepth 20000 in
theorem clone_trks (A : Option Addr) (c : Nat) (ts : List Pl.Trk) (w : World) (ht : Trks w w.heap.size A ts) (hlen : ts.length ≤ 1000) :
    Calls Tryz.prog 45 #[.slice A ts.length c] w (TrksPost ts w) := by
  cases A with
  | none =>
    have h0 : ts = [] := by
      cases ts with
      | nil => rfl
      | cons t l => obtain ⟨b, off, h, _⟩ := ht 0 t rfl; cases h
    subst h0
    clear ht
    have hq : ∀ w, (binOp .eql 22 (.slice none 0 c) (.slice none 0 0)).run Tryz.prog w = .ok (.bool true) w := fun w => Lib.run_eql_slice_nil w 22 31 none 0 c 0 0 Tryz.underlying22
    go_enter Tryz.func45, Tryz.ntmps45
    go_wp2_with fail
    go_ret
    exact ⟨none, 0, rfl, OwnTrks.nil _ _, Below.refl _ _⟩
  | some a =>
    have H := Lib.hid ht.reads
    have hnew : OwnTrks (w.alloc (.cells #[] 31)) w.heap.size (some ⟨w.heap.size, 0, none⟩) 0 [] := World.ownsRow_lit w #[] 0 (Nat.le_refl _) (by decide) (by simp)
    have Hnew := Lib.hid hnew
    have hq : ∀ w, (binOp .eql 22 (.slice (some a) ts.length c) (.slice none 0 0)).run Tryz.prog w = .ok (.bool false) w := fun w => Lib.run_eql_slice_nil w 22 31 (some a) ts.length c 0 0 Tryz.underlying22
    clear ht hnew
    go_enter Tryz.func45, Tryz.ntmps45
    go_wp2_with (at_builtin; refine wpl_app_trks rfl (.tmp 5) (.tmp 6) 22 rfl w.heap.size Tryz.underlying22 trk_info (some ⟨w.heap.size, 0, none⟩) 0 [] rfl Hnew.out w.heap.size (some a) ts.length c (ts.flatMap trkCells) rfl (H.out.alloc (Nat.le_refl _) _) flat_one (by simp; omega) (by simp) ?_; intro A2 c2 w2 hown2 hg2; have hb2 : Below w.heap.size w w2 := (((Below.refl w.heap.size w).alloc (Nat.le_refl _) _).grown hg2 (by simp) (fun k hk => by simp [Value.ownBlock] at hk; omega)); have Hown := Lib.hid hown2; have Hb := Lib.hid hb2; clear hown2 hg2 hb2)
    go_ret
    exact ⟨A2, c2, by simp, by unfold OwnTrks; simpa using Hown.out, Hb.out⟩
end Go.Proofs.YtpbjpochjagicaaGreatDoorRR
