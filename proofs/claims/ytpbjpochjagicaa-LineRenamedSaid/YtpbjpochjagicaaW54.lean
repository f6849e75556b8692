/- Walks: a list of lines is copied, and a line struck out of it. Walks: a line is struck out of a list of the call's own: slices.Delete. Walks: a net without a line, as the laws make it: without. -/
import Derived.Test.YtpbjpochjagicaaOt
import Derived.Test.YtpbjpochjagicaaW51
import Derived.Deep.RegionLaw
import Derived.Lib.LazyBuf
import Derived.Test.YtpbjpochjagicaaMs
import Derived.Test.YtpbjpochjagicaaW10
import Derived.Deep.RegionLawGrows
import Derived.IntWalk
namespace Go.Proofs.Ytpbjpochjagicaa
open Go.RowKit

theorem flat_length (ts : List Pl.Trk) : (ts.flatMap trkCells).length = ts.length * 9 := by
  induction ts with
  | nil => rfl
  | cons t l ih => rw [List.flatMap_cons, List.length_append, ih, List.length_cons]; simp [trkCells]; omega
theorem flat_one {ts : List Pl.Trk} : ∀ u ∈ ts.flatMap trkCells, u.oneCell' = true := fun u hu => by
  obtain ⟨t, _, h⟩ := List.mem_flatMap.1 hu
  exact trk_one u h
theorem flat_div {ts : List Pl.Trk} {j : Nat} {u : Value} (h : (ts.flatMap trkCells)[j]? = some u) : ∃ k i t, j = k * 9 + i ∧ i < 9 ∧ ts[k]? = some t ∧ (trkCells t)[i]? = some u := by
  have hj : j < ts.length * 9 := by rw [← flat_length]; exact (List.getElem?_eq_some_iff.1 h).1
  have hk : j / 9 < ts.length := by omega
  refine ⟨j / 9, j % 9, ts[j / 9], by omega, by omega, List.getElem?_eq_getElem hk, ?_⟩
  rw [← flat_at ts (j / 9) (j % 9) ts[j / 9] (by omega) (List.getElem?_eq_getElem hk), show j / 9 * 9 + j % 9 = j by omega]
  exact h
theorem Trks.reads {w : World} {B : Nat} {A : Option Addr} {ts : List Pl.Trk} (h : Trks w B A ts) : Reads w B 9 A ts.length (ts.flatMap trkCells) := by
  refine ⟨flat_length ts, fun h0 => ?_⟩
  obtain ⟨b, off, rfl, hb, _⟩ := h 0 ts[0] (List.getElem?_eq_getElem h0)
  refine ⟨⟨b, off, none⟩, rfl, hb, fun j u hu => ?_⟩
  obtain ⟨k, i, t, rfl, hi, hk, ht⟩ := flat_div hu
  obtain ⟨b', off', he, _, hc⟩ := h k t hk
  injection he with he
  injection he with h1 h2 _
  subst h1 h2
  have := hc i u ht
  rw [show (Addr.add ⟨b, off, none⟩ (k * 9 + i)) = ⟨b, off + k * 9 + i, none⟩ by unfold Addr.add; split <;> simp_all <;> omega]
  exact this

/-- 'append(s, x...)' of lines onto an own row. -/
theorem wpl_app_trks {P : Program} {w : World} {ops : Array Oper} {rest : List Oper} {o : Oper} {a : Act} {Q : Exit → Act → World → Prop} (hgd : o.guard = none) (s x : Operand) (t : TypeId)
    (ho : o.op = .call { callee := .builtin .append, args := #[s, x], argTypes := #[t, t] })
    (base : Nat) (ht : P.underlying t = some (.slice 47))
    (hi : (P.info? 47).map (fun i => (i.zero, i.size, i.bytes)) = some (some (.agg #[.int .i64 0, .int .i64 0, .int .i64 0, .int .i64 0, .int .i64 0, .int .i64 0, .int .i64 0, .int .i64 0, .bool false]), 9, 72))
    (A : Option Addr) (c : Nat) (ts : List Pl.Trk) (hs : a.eval s = .slice A ts.length c) (hown : OwnTrks w base A c ts)
    (B : Nat) (A' : Option Addr) (m c' : Nat) (cs : List Value) (hx : a.eval x = .slice A' m c') (hr : Reads w B 9 A' m cs) (h1c : ∀ u ∈ cs, u.oneCell' = true)
    (hlen : ts.length + m ≤ 1000) (hbase : base ≤ w.heap.size)
    (h : ∀ A2 c2 w', w'.ownsRow base 47 9 (.slice A2 (ts.length + m) c2) (ts.length + m) (ts.flatMap trkCells ++ cs) → w.grownBy w' (Value.slice A ts.length c).ownBlock →
      wpList P ops Q rest (a.put o.dst (.slice A2 (ts.length + m) c2)) w') : wpList P ops Q (o :: rest) a w := by
  obtain ⟨i, h1, h2, h3, h4⟩ := info_parts hi
  refine wpList_append_any w hgd s x t ho base 47 i _ 9 72 ht h1 h2 h3 h4 rfl (by omega) (.slice A ts.length c) ts.length (ts.flatMap trkCells) hs hown B A' m c' cs hx hr
    h1c (by simp only [maxLen]; omega) (by omega) hbase ?_
  intro v' w' hown' hg _
  obtain ⟨A2, c2, rfl⟩ := own_slice hown'
  exact h A2 c2 w' hown' hg

def TrksPost (ts : List Pl.Trk) (w : World) (e : Ending) (w' : World) : Prop := ∃ A c, e = .returned (.slice A ts.length c) ∧ OwnTrks w' w.heap.size A c ts ∧ Below w.heap.size w w'
set_option maxRecDepth 20000 in
theorem clone_trks (A : Option Addr) (c : Nat) (ts : List Pl.Trk) (w : World) (ht : Trks w w.heap.size A ts) (hlen : ts.length ≤ 1000) :
    Calls Try.prog 103 #[.slice A ts.length c] w (TrksPost ts w) := by
  cases A with
  | none =>
    have h0 : ts = [] := by
      cases ts with
      | nil => rfl
      | cons t l => obtain ⟨b, off, h, _⟩ := ht 0 t rfl; cases h
    subst h0
    clear ht
    have hq : ∀ w, (binOp .eql 25 (.slice none 0 c) (.slice none 0 0)).run Try.prog w = .ok (.bool true) w := fun w => Lib.run_eql_slice_nil w 25 47 none 0 c 0 0 Try.underlying25
    go_enter Try.func103, Try.ntmps103
    go_wp2_with fail
    go_ret
    exact ⟨none, 0, rfl, OwnTrks.nil _ _, Below.refl _ _⟩
  | some a =>
    have H := Lib.hid ht.reads
    have hnew : OwnTrks (w.alloc (.cells #[] 47)) w.heap.size (some ⟨w.heap.size, 0, none⟩) 0 [] := World.ownsRow_lit w #[] 0 (Nat.le_refl _) (by decide) (by simp)
    have Hnew := Lib.hid hnew
    have hq : ∀ w, (binOp .eql 25 (.slice (some a) ts.length c) (.slice none 0 0)).run Try.prog w = .ok (.bool false) w := fun w => Lib.run_eql_slice_nil w 25 47 (some a) ts.length c 0 0 Try.underlying25
    clear ht hnew
    go_enter Try.func103, Try.ntmps103
    go_wp2_with (at_builtin; refine wpl_app_trks rfl (.tmp 5) (.tmp 6) 25 rfl w.heap.size Try.underlying25 trk_info (some ⟨w.heap.size, 0, none⟩) 0 [] rfl Hnew.out w.heap.size (some a) ts.length c (ts.flatMap trkCells) rfl (H.out.alloc (Nat.le_refl _) _) flat_one (by simp; omega) (by simp) ?_; intro A2 c2 w2 hown2 hg2; have hb2 : Below w.heap.size w w2 := (((Below.refl w.heap.size w).alloc (Nat.le_refl _) _).grown hg2 (by simp) (fun k hk => by simp [Value.ownBlock] at hk; omega)); have Hown := Lib.hid hown2; have Hb := Lib.hid hb2; clear hown2 hg2 hb2)
    go_ret
    exact ⟨A2, c2, by simp, by unfold OwnTrks; simpa using Hown.out, Hb.out⟩
end Go.Proofs.Ytpbjpochjagicaa

namespace Go.Proofs.Ytpbjpochjagicaa
open Go.RowKit

def zeroTrk : List Value := [.int .i64 0, .int .i64 0, .int .i64 0, .int .i64 0, .int .i64 0, .int .i64 0, .int .i64 0, .int .i64 0, .bool false]
theorem run_clear_trk (w : World) (ty : TypeId) (b o c : Nat) (hc : ∀ j, j < 9 → (w.cell? ⟨b, o + j, none⟩).isSome = true) (hf : ∀ j, j < 9 → w.frozen? ⟨b, o + j, none⟩ = false) :
    (Builtin.clear_ #[25] ty #[.slice (some ⟨b, o, none⟩) 1 c]).run Try.prog w = .ok (.tuple #[]) (w.setCells b o zeroTrk) := by
  have hzc : (Builtin.zeroCells (Value.agg #[.int .i64 0, .int .i64 0, .int .i64 0, .int .i64 0, .int .i64 0, .int .i64 0, .int .i64 0, .int .i64 0, .bool false]).cells 1).toList = zeroTrk := by kernel_rfl
  have hst := run_storeCells_cells (P := Try.prog) b o zeroTrk 0 w (by simpa [zeroTrk] using hc) (by simpa [zeroTrk] using hf) (by intro v hv; simp [zeroTrk] at hv; rcases hv with rfl | rfl <;> rfl)
  simp only [Nat.add_zero] at hst
  have hv : (zeroValue 47).run Try.prog w = .ok (.agg #[.int .i64 0, .int .i64 0, .int .i64 0, .int .i64 0, .int .i64 0, .int .i64 0, .int .i64 0, .int .i64 0, .bool false]) w := by kernel_rfl
  simp [Builtin.clear_, run_underlying Try.underlying25, hv, hzc, hst]

theorem isSome_sets (b : Nat) : ∀ (vs : List Value) (o : Nat) (w : World) (q : Addr), (w.cell? q).isSome = true → ((w.setCells b o vs).cell? q).isSome = true
  | [], _, _, _, h => h
  | v :: r, o, w, q, h => isSome_sets b r (o + 1) _ q (by
    by_cases e : q = ⟨b, o, none⟩
    · subst e
      obtain ⟨u, hu⟩ := Option.isSome_iff_exists.1 h
      rw [World.cell?_setCell_same _ _ _ hu]; rfl
    · rw [World.cell?_setCell_other _ _ _ _ (fun e2 => e e2.symm)]; exact h)

set_option maxRecDepth 20000 in
set_option maxHeartbeats 2000000 in
theorem delete_trks (base g c : Nat) (ts : List Pl.Trk) (i : Nat) (hi : i < ts.length) (w : World) (ho : OwnTrks w base (some ⟨g, 0, none⟩) c ts) (hlen : ts.length ≤ 1000) :
    Calls Try.prog 102 #[.slice (some ⟨g, 0, none⟩) ts.length c, .int .i64 i, .int .i64 ((i : Int) + 1)] w fun e w' => e = .returned (.slice (some ⟨g, 0, none⟩) (ts.length - 1) c) ∧ Trks w' w'.heap.size (some ⟨g, 0, none⟩) (ts.eraseIdx i) ∧ Below base w w' := by
  obtain ⟨cur, hbg, hblk, hcap, hmax, hsz, htake⟩ : ∃ cur, base ≤ g ∧ w.heap[g]? = some (.cells cur 47 (0, 0)) ∧ ts.length ≤ c ∧ c ≤ maxLen ∧ cur.size = c * 9 ∧ cur.toList.take (ts.length * 9) = ts.flatMap trkCells := by
    rcases ho.2 with ⟨h, _⟩ | ⟨g', cap', cur, hv, h1, h2, h3, h4, h5, h6⟩
    · cases h
    · injection hv with hv hv1 hv2
      injection hv with hv
      injection hv with hv
      subst hv hv2
      exact ⟨cur, h1, h2, h3, h4, h5, h6⟩
  obtain ⟨i0, hi0, hz0, hz1, hz2⟩ := info_parts trk_info
  have hcell : ∀ j, j < c * 9 → (w.cell? ⟨g, j, none⟩).isSome = true := fun j hj => by
    rw [blk_cell hblk j, Array.getElem?_eq_getElem (by omega)]; rfl
  have hfro : ∀ j, w.frozen? ⟨g, j, none⟩ = false := fun j => blk_frozen hblk j
  have hcells : ∀ j u, (ts.flatMap trkCells)[j]? = some u → w.cell? ⟨g, j, none⟩ = some u := fun j u hu => by
    rw [← htake] at hu
    rw [blk_cell hblk j, ← Array.getElem?_toList]
    rw [List.getElem?_take] at hu
    split at hu
    · exact hu
    · cases hu
  -- what is moved to the left
  obtain ⟨m, hm⟩ : ∃ m, m = ts.length - (i + 1) := ⟨_, rfl⟩
  obtain ⟨news, hnews⟩ : ∃ news, news = (ts.drop (i + 1)).flatMap trkCells := ⟨_, rfl⟩
  have hnl : news.length = (ts.length - (i + 1)) * 9 := by rw [hnews, flat_length, List.length_drop]
  have hget : ∀ j u, news[j]? = some u → w.cell? ⟨g, (i + 1) * 9 + j, none⟩ = some u := fun j u hu => by
    refine hcells _ u ?_
    rw [hnews] at hu
    obtain ⟨k, q, t, rfl, hq, hk, ht⟩ := flat_div hu
    rw [List.getElem?_drop] at hk
    rw [show (i + 1) * 9 + (k * 9 + q) = (i + 1 + k) * 9 + q by omega, flat_at ts (i + 1 + k) q t hq hk]
    exact ht
  obtain ⟨A, hA, hsrc⟩ : ∃ A : Addr, (if c = i + 1 then some (⟨g, 0, none⟩ : Addr) else some ⟨g, (i + 1) * 9, none⟩) = some A ∧ Hid (∀ j u, news[j]? = some u → w.drew.cell? (A.add j) = some u) := by
    by_cases h : c = i + 1
    · refine ⟨⟨g, 0, none⟩, by simp [h], fun j u hu => ?_⟩
      have h0 : news.length = 0 := by rw [hnl]; omega
      rw [List.length_eq_zero_iff.1 h0] at hu
      simp at hu
    · refine ⟨⟨g, (i + 1) * 9, none⟩, by simp [h], fun j u hu => ?_⟩
      have := hget j u hu
      rw [show (Addr.add ⟨g, (i + 1) * 9, none⟩ j) = ⟨g, (i + 1) * 9 + j, none⟩ by unfold Addr.add; split <;> simp_all]
      exact this
  have s2 : Hid (∀ u ∈ news, u.oneCell' = true) := by rw [hnews]; exact flat_one
  have s3 : Hid (∀ j, j < news.length → (w.drew.cell? ⟨g, 0 + i * 9 + j, none⟩).isSome = true ∧ w.drew.frozen? ⟨g, 0 + i * 9 + j, none⟩ = false) := fun j hj => by
    rw [hnl] at hj
    exact ⟨hcell _ (by omega), hfro _⟩
  have s1 := Lib.hid hnl
  obtain ⟨W1, hW1⟩ : ∃ W1, W1 = w.drew.setCells g (0 + i * 9) news := ⟨_, rfl⟩
  have hcell1 : ∀ j, j < c * 9 → (W1.cell? ⟨g, j, none⟩).isSome = true := fun j hj => by
    rw [hW1]; exact isSome_sets g news _ w.drew _ (hcell j hj)
  have hfro1 : ∀ j, W1.frozen? ⟨g, j, none⟩ = false := fun j => by
    rw [hW1, World.frozen?_setCells]; exact hfro j
  obtain ⟨W2, hW2⟩ : ∃ W2, W2 = W1.setCells g ((i + (ts.length - (i + 1))) * 9) zeroTrk := ⟨_, rfl⟩
  have hcl : (Builtin.clear_ #[25] 0 #[.slice (some ⟨g, (i + (ts.length - (i + 1))) * 9, none⟩) (ts.length - (i + (ts.length - (i + 1)))) (c - (i + (ts.length - (i + 1))))]).run Try.prog W1 = .ok (.tuple #[]) W2 := by
    rw [hW2, show ts.length - (i + (ts.length - (i + 1))) = 1 by omega]
    exact run_clear_trk W1 0 g _ _ (fun j hj => hcell1 _ (by omega)) (fun j _ => hfro1 _)
  have hout : ∀ x, x < (ts.length - 1) * 9 → W2.cell? ⟨g, x, none⟩ = W1.cell? ⟨g, x, none⟩ := fun x hx => by
    rw [hW2]
    exact World.cell?_setCells_out g zeroTrk _ W1 _ (fun _ _ => .inl (by show x < _; omega))
  have hT : Trks W2 W2.heap.size (some ⟨g, 0, none⟩) (ts.eraseIdx i) := fun k t hk => by
    refine ⟨g, 0, rfl, ?_, fun j v hv => ?_⟩
    · have hg : g < w.heap.size := lt_of_block hblk
      have hb1 : w.heap.size ≤ W1.heap.size := by rw [hW1]; exact (below_setCells (B := 0) (Nat.zero_le _) news _ w.drew (Below.refl _ _).drew).size
      have hb2 : W1.heap.size ≤ W2.heap.size := by rw [hW2]; exact (below_setCells (B := 0) (Nat.zero_le _) zeroTrk _ W1 (Below.refl _ _)).size
      omega
    · have hj9 : j < 9 := by have := (List.getElem?_eq_some_iff.1 hv).1; simpa [trkCells] using this
      have hkl : k < ts.length - 1 := by
        have := (List.getElem?_eq_some_iff.1 hk).1
        rw [List.length_eraseIdx] at this
        rw [if_pos hi] at this
        exact this
      rw [show 0 + k * 9 + j = k * 9 + j by omega, hout _ (by omega), hW1]
      by_cases hki : k < i
      · rw [World.cell?_setCells_out g news _ w.drew _ (fun _ _ => .inl (by show k * 9 + j < _; omega))]
        rw [List.getElem?_eraseIdx, if_pos hki] at hk
        exact hcells _ v (by rw [flat_at ts k j t hj9 hk]; exact hv)
      · rw [List.getElem?_eraseIdx, if_neg hki] at hk
        have hjn : (k - i) * 9 + j < news.length := by rw [hnl]; omega
        have := World.cell?_setCells_in g news (0 + i * 9) w.drew (fun q hq => hcell _ (by rw [hnl] at hq; omega)) ((k - i) * 9 + j) hjn
        rw [show 0 + i * 9 + ((k - i) * 9 + j) = k * 9 + j by omega] at this
        rw [this, ← List.getElem?_eq_getElem hjn, hnews, flat_at (ts.drop (i + 1)) (k - i) j t hj9 (by rw [List.getElem?_drop, show i + 1 + (k - i) = k + 1 by omega]; exact hk)]
        exact hv
  have hBW : Below base w W2 := by
    rw [hW2, hW1]
    exact below_setCells hbg zeroTrk _ _ (below_setCells hbg news _ w.drew (Below.refl _ _).drew)
  have HT := Lib.hid hT
  have HBW := Lib.hid hBW
  have hW := Lib.hid hW1
  have hic : i ≤ c := by omega
  have hjc : i + 1 ≤ c := by omega
  have hi0' : (0 : Int) ≤ (i : Int) + 1 := by omega
  have hi1' : (i : Int) + 1 ≤ (ts.length : Int) := by omega
  have hc63 : c ≤ 9223372036854775807 := by simp only [maxLen] at hmax; omega
  clear hW1 hW2 hout hT hBW hm hcell1 hfro1 hcell hfro hcells hget hnews hnl htake hblk ho hmax hsz
  go_enter Try.func102, Try.ntmps102
  go_wp2_with fail
  go_region_law (refine step_append_room rfl (.tmp 22) (.tmp 25) 25 rfl 47 i0 9 Try.underlying25 hi0 hz1 g 0 i c (by simp [Act.eval, Act.put]) A (ts.length - (i + 1)) (c - (i + 1)) news (by simp [Act.eval, Act.put]) s1.out hsrc.out s2.out (by omega) s3.out ?_; rw [← hW.out])
  go_wp2_with fail
  go_ret
  exact ⟨by rw [show i + (ts.length - (i + 1)) = ts.length - 1 by omega]; rfl, HT.out, HBW.out⟩
end Go.Proofs.Ytpbjpochjagicaa

namespace Go.Proofs.Ytpbjpochjagicaa
open Go.RowKit

theorem Reads.first {w : World} {B size n : Nat} {A : Option Addr} {xs : List Value} (h : Reads w B size A n xs) {k : Nat} (hk : k ≤ n) : Reads w B size A k (xs.take (k * size)) := by
  refine ⟨by rw [List.length_take, h.1]; exact Nat.min_eq_left (Nat.mul_le_mul_right _ hk), fun h0 => ?_⟩
  obtain ⟨ad, h1, h2, h3⟩ := h.2 (by omega)
  refine ⟨ad, h1, h2, fun j u hu => ?_⟩
  rw [List.getElem?_take] at hu
  split at hu
  · exact h3 j u hu
  · cases hu
theorem flat_take (ts : List Pl.Trk) (k : Nat) : (ts.flatMap trkCells).take (k * 9) = (ts.take k).flatMap trkCells := by
  induction ts generalizing k with
  | nil => simp
  | cons t l ih =>
    cases k with
    | zero => simp
    | succ k =>
      rw [List.flatMap_cons, List.take_succ_cons, List.flatMap_cons, List.take_append, ← ih k]
      have e : (trkCells t).length = 9 := rfl
      rw [e, List.take_of_length_le (by rw [e]; omega), show (k + 1) * 9 - 9 = k * 9 by omega]
theorem flat_drop (ts : List Pl.Trk) (k : Nat) : (ts.flatMap trkCells).drop (k * 9) = (ts.drop k).flatMap trkCells := by
  induction ts generalizing k with
  | nil => simp
  | cons t l ih =>
    cases k with
    | zero => simp
    | succ k =>
      rw [List.flatMap_cons, List.drop_succ_cons, List.drop_append, ← ih k]
      have e : (trkCells t).length = 9 := rfl
      rw [e, List.drop_eq_nil_of_le (by rw [e]; omega), show (k + 1) * 9 - 9 = k * 9 by omega, List.nil_append]

theorem own_ge {w : World} {base e size n m : Nat} {A : Option Addr} {c : Nat} {xs : List Value} (h : w.ownsRow base e size (.slice A n c) m xs) : ∀ k, (Value.slice A n c).ownBlock = some k → base ≤ k := fun k hk => (h.lt k hk).1
/-- A net without a line, its lines in new memory. -/
def WithoutPost (n : Pl.Nt) (i : Nat) (sA : Option Addr) (sc : Nat) (w : World) (e : Ending) (w' : World) : Prop :=
  ∃ A c, e = .returned (.agg #[.int .i64 (Pl.without n i).stops, .slice A (Pl.without n i).tracks.length c, .slice sA (Pl.without n i).shops.length sc]) ∧ NReads w' w'.heap.size (Pl.without n i) A sA c sc ∧ Below w.heap.size w w'

set_option maxRecDepth 20000 in
set_option maxHeartbeats 2000000 in
theorem without_any (n : Pl.Nt) (n_tA n_sA : Option Addr) (n_tc n_sc : Nat) (i : Nat) (hi : i < n.tracks.length) (w : World) (hn : NReads w w.heap.size n n_tA n_sA n_tc n_sc) (hcap : n.tracks.length ≤ n_tc) (hmax : n_tc ≤ 9223372036854775807) (hlen : n.tracks.length ≤ 1000) :
    Calls Try.prog 61 #[.agg #[.int .i64 n.stops, .slice n_tA n.tracks.length n_tc, .slice n_sA n.shops.length n_sc], .int .i64 i] w (WithoutPost n i n_sA n_sc w) := by
  obtain ⟨b, off, hA0, hbw, _⟩ := hn.tracks i n.tracks[i] (List.getElem?_eq_getElem hi)
  subst hA0
  have hR := hn.tracks.reads
  obtain ⟨w0, hw0⟩ : ∃ w0, w0 = (w.alloc (.cells #[.int .i64 n.stops, .slice (some ⟨b, off, none⟩) n.tracks.length n_tc, .slice n_sA n.shops.length n_sc] 27)).alloc (.cells #[.int .i64 0, .slice none 0 0, .slice none 0 0] 27) := ⟨_, rfl⟩
  have hb0 : Below w.heap.size w w0 := by rw [hw0]; exact ((Below.refl _ _).alloc (Nat.le_refl _) _).alloc (by simp) _
  have hs0 : w0.heap.size = w.heap.size + 1 + 1 := by rw [hw0]; simp
  have hbx : w0.heap[w.heap.size]? = some (.cells #[.int .i64 n.stops, .slice (some ⟨b, off, none⟩) n.tracks.length n_tc, .slice n_sA n.shops.length n_sc] 27 (0, 0)) := by rw [hw0]; exact blk_alloc (heap_alloc_new w _) _
  have hrs : w0.heap[w.heap.size + 1]? = some (.cells #[.int .i64 0, .slice none 0 0, .slice none 0 0] 27 (0, 0)) := by
    rw [hw0]
    have := heap_alloc_new (w.alloc (.cells #[.int .i64 n.stops, .slice (some ⟨b, off, none⟩) n.tracks.length n_tc, .slice n_sA n.shops.length n_sc] 27)) (.cells #[.int .i64 0, .slice none 0 0, .slice none 0 0] 27)
    simpa using this
  obtain ⟨A2, hA2, hcut⟩ : ∃ A2 : Option Addr, (if n_tc = i + 1 then some (⟨b, off, none⟩ : Addr) else some ⟨b, off + (i + 1) * 9, none⟩) = A2 ∧ Reads w w.heap.size 9 A2 (n.tracks.length - (i + 1)) ((n.tracks.drop (i + 1)).flatMap trkCells) := by
    refine ⟨_, rfl, ?_⟩
    have h := hR.cut (k := i + 1) (cap := n_tc) (by omega) hcap
    rw [flat_drop] at h
    have e : (Option.map (fun x => x.add ((i + 1) * 9)) (some (⟨b, off, none⟩ : Addr))) = some ⟨b, off + (i + 1) * 9, none⟩ := by
      simp [Addr.add]
    rw [e] at h
    exact h
  have hfst : Reads w w.heap.size 9 (some ⟨b, off, none⟩) i ((n.tracks.take i).flatMap trkCells) := by
    have h := hR.first (k := i) (by omega)
    rw [flat_take] at h
    exact h
  have hnew : OwnTrks (w0.alloc (.cells #[] 47)) w0.heap.size (some ⟨w0.heap.size, 0, none⟩) 0 [] := World.ownsRow_lit w0 #[] 0 (Nat.le_refl _) (by decide) (by simp)
  have HN := Lib.hid hn
  have HB0 := Lib.hid hb0
  have HS0 := Lib.hid hs0
  have HBX := Lib.hid hbx
  have HRS := Lib.hid hrs
  have HNEW := Lib.hid hnew
  have HC := Lib.hid hcut
  have HF := Lib.hid hfst
  have hi0 : (i : Int) ≤ (n_tc : Int) := by omega
  have hi1 : (0 : Int) ≤ (i : Int) + 1 := by omega
  have hi2 : (i : Int) + 1 ≤ (n.tracks.length : Int) := by omega
  have hic : i ≤ n_tc := by omega
  have y1 : w0.cell? ⟨w.heap.size, 1, none⟩ = some (.slice (some ⟨b, off, none⟩) n.tracks.length n_tc) := blk_cell hbx 1
  obtain ⟨i0, t1, t2, t3, t4⟩ := info_parts trk_info
  clear hn hR hcut hfst hnew hbx hrs hb0 hs0
  go_enter Try.func61, Try.ntmps61
  go_wp2_with fail
  rw [← hw0]
  clear hw0
  go_wp2_with fail
  have e63 : 0 + i ≤ maxLen := by simp only [maxLen]; omega
  have e64 : i + (n.tracks.length - (i + 1)) ≤ maxLen := by simp only [maxLen]; omega
  have e65 : (0 + i) * 72 ≤ 140737488355328 := by omega
  have e66 : (i + (n.tracks.length - (i + 1))) * 72 ≤ 140737488355328 := by omega
  have e67 : w.heap.size ≤ w0.heap.size := by rw [HS0.out]; omega
  have hwr : IntKind.i64.wrap ((i : Int) + 1) = (i : Int) + 1 := IntWalk.i64_in _ ⟨by omega, by omega⟩
  have htn : ((i : Int) + 1).toNat = i + 1 := by omega
  go_region_law (first
    | (refine step_append_any _ rfl (.tmp 8) (.tmp 11) 25 rfl w0.heap.size 47 i0 _ 9 72 Try.underlying25 t1 t2 t3 t4 rfl (by decide) (.slice (some ⟨w0.heap.size, 0, none⟩) 0 0) 0 [] (by simp [Act.eval]) HNEW.out w.heap.size (some ⟨b, off, none⟩) i n_tc ((n.tracks.take i).flatMap trkCells) (by simp [Act.eval]) ((HF.out.below HB0.out).alloc e67 _) flat_one e63 e65 (by simp [World.drew]) ?_; intro v1 w1 hown1 hg1 _; obtain ⟨A1, c1, hv1⟩ := own_slice hown1; subst hv1; have HO1 := Lib.hid hown1; have HG1 := Lib.hid hg1; clear hown1 hg1; simp only [Nat.zero_add] at HO1 ⊢)
    | (refine step_append_any _ rfl (.tmp 12) (.tmp 16) 25 rfl w0.heap.size 47 i0 _ 9 72 Try.underlying25 t1 t2 t3 t4 rfl (by decide) (.slice A1 i c1) i ([] ++ (n.tracks.take i).flatMap trkCells) (by simp [Act.eval]) HO1.out w.heap.size A2 (n.tracks.length - (i + 1)) (n_tc - (i + 1)) ((n.tracks.drop (i + 1)).flatMap trkCells) (by simp [Act.eval]) (HC.out.below (HB0.out.trans (((Below.refl w.heap.size w0).alloc e67 _).drew.trans ((Below.refl _ _).grown HG1.out (by simp [World.drew]; omega) (fun k hk => by simp [Value.ownBlock] at hk; omega))))) flat_one e64 e66 (by have := HG1.out.size; simp [World.drew] at this; omega) ?_; intro v2 w2 hown2 hg2 _; obtain ⟨A3, c3, hv3⟩ := own_slice hown2; subst hv3; have hbb : Below w0.heap.size w0 w2 := (((Below.refl _ w0).alloc (Nat.le_refl _) _).drew.trans (((Below.refl _ _).grown HG1.out (by simp [World.drew]) (fun k hk => by simp [Value.ownBlock] at hk; omega)).trans ((Below.refl _ _).grown hg2 (by have := HG1.out.size; simp [World.drew] at this; omega) (fun k hk => own_ge HO1.out k hk)))); have HO2 := Lib.hid hown2; have HBB := Lib.hid hbb; have hx2 := blk_below HBX.out hbb (by rw [HS0.out]; omega); have hr2 := blk_below HRS.out hbb (by rw [HS0.out]; omega); have z0 := blk_cell hx2 0; have z1 := blk_cell hx2 1; have z2 := blk_cell hx2 2; have f1 := blk_frozen hx2 1; have q0 := blk_cell hr2 0; have q1 := blk_cell hr2 1; have q2 := blk_cell hr2 2; have p0 := blk_frozen hr2 0; have p1 := blk_frozen hr2 1; have p2 := blk_frozen hr2 2; clear hown2 hg2 hbb hx2 hr2))
  replace z0 : w2.cell? ⟨w.heap.size, 0, none⟩ = some (.int .i64 n.stops) := z0
  replace z1 : w2.cell? ⟨w.heap.size, 1, none⟩ = some (.slice (some ⟨b, off, none⟩) n.tracks.length n_tc) := z1
  replace z2 : w2.cell? ⟨w.heap.size, 2, none⟩ = some (.slice n_sA n.shops.length n_sc) := z2
  replace q0 : w2.cell? ⟨w.heap.size + 1, 0, none⟩ = some (.int .i64 0) := q0
  replace q1 : w2.cell? ⟨w.heap.size + 1, 1, none⟩ = some (.slice none 0 0) := q1
  replace q2 : w2.cell? ⟨w.heap.size + 1, 2, none⟩ = some (.slice none 0 0) := q2
  clear hwr htn e63 e64 e65 e66
  have hL : (n.tracks.eraseIdx i).length = i + (n.tracks.length - (i + 1)) := by rw [List.length_eraseIdx, if_pos hi]; omega
  have hE : n.tracks.eraseIdx i = n.tracks.take i ++ n.tracks.drop (i + 1) := List.eraseIdx_eq_take_drop_succ _ _
  have hown : OwnTrks w2 w0.heap.size A3 c3 (n.tracks.eraseIdx i) := by
    have := HO2.out
    unfold OwnTrks
    rw [hL, hE, List.flatMap_append]
    simpa using this
  have HOW := Lib.hid hown
  have HL := Lib.hid hL
  clear hown hL hE HO2
  generalize hg : i + (n.tracks.length - (i + 1)) = L at HL ⊢
  clear hg
  go_wp2_with fail
  refine bodyPost_ret (v := .agg #[.int .i64 n.stops, .slice A3 L c3, .slice n_sA n.shops.length n_sc]) (by simp [results, Try.results61, go_sem, q0, q1, q2]) rfl ?_
  have hB : w.heap.size < w0.heap.size := by rw [HS0.out]; omega
  have hR' : w.heap.size + 1 < w0.heap.size := by rw [HS0.out]; omega
  have hf : ∀ (v0 v1 v2 v3 : Value), OwnTrks ((((w2.setCell ⟨w.heap.size, 1, none⟩ v0).setCell ⟨w.heap.size + 1, 0, none⟩ v1).setCell ⟨w.heap.size + 1, 1, none⟩ v2).setCell ⟨w.heap.size + 1, 2, none⟩ v3) w0.heap.size A3 c3 (n.tracks.eraseIdx i) ∧
      Below w.heap.size w ((((w2.setCell ⟨w.heap.size, 1, none⟩ v0).setCell ⟨w.heap.size + 1, 0, none⟩ v1).setCell ⟨w.heap.size + 1, 1, none⟩ v2).setCell ⟨w.heap.size + 1, 2, none⟩ v3) := fun v0 v1 v2 v3 =>
    ⟨ownsRow_setCell_below (ownsRow_setCell_below (ownsRow_setCell_below (ownsRow_setCell_below HOW.out hB _) hR' _) hR' _) hR' _,
      ((((HB0.out.trans (HBB.out.mono (by omega))).setCell (Nat.le_refl _) _).setCell (Nat.le_succ _) _).setCell (Nat.le_succ _) _).setCell (Nat.le_succ _) _⟩
  have hl : (Pl.without n i).tracks.length ≤ n.tracks.length := by
    show (n.tracks.eraseIdx i).length ≤ _
    rw [List.length_eraseIdx]
    split <;> omega
  have hlt := HN.out.lenT
  exact ⟨A3, c3, by rw [← HL.out]; rfl, ⟨(hf _ _ _ _).1.trks, (HN.out.shops.below (hf _ _ _ _).2).more (hf _ _ _ _).2.size, by omega, HN.out.lenS⟩, (hf _ _ _ _).2⟩
end Go.Proofs.Ytpbjpochjagicaa
