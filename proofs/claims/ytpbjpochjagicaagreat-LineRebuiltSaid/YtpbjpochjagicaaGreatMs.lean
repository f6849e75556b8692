/- Plain laws: lines without which a car would not come. Walks: a line is struck out of a list of the call's own: slices.Delete. Walks: a net without a line, as the laws make it: without. Walks: lines without which a car would not come: Must. Walks: Must of the reference, and the program's where the question is a bad one. -/
import Derived.Test.YtpbjpochjagicaaGreatWy
import Derived.Test.YtpbjpochjagicaaGreatOt
import Derived.Deep.RegionLaw
import Derived.Lib.LazyBuf
import Derived.Test.YtpbjpochjagicaaGreatW10
import Derived.Deep.RegionLawGrows
import Derived.IntWalk
import Derived.Test.YtpbjpochjagicaaGreatW15
import Derived.Test.YtpbjpochjagicaaGreatZ5
import Derived.Test.YtpbjpochjagicaaGreatW23
namespace Go.Proofs.YtpbjpochjagicaaGreat.Pl

/-- a net without a line. -/
def without (n : Nt) (i : Nat) : Nt := { n with tracks := n.tracks.eraseIdx i }
def mustTo (n : Nt) (c : Cch) (fr g tt : Int) (k : Nat) : List Int := ((List.range k).filter fun i => !comes (without n i) c [] (fr, g) tt).map fun i : Nat => (i : Int)
/-- all lines without which a car would not come. -/
def must (n : Nt) (c : Cch) (fr g tt : Int) : List Int := mustTo n c fr g tt n.tracks.length
theorem mustTo_in {n : Nt} {c : Cch} {fr g tt : Int} {k : Nat} (h : comes (without n k) c [] (fr, g) tt = false) : mustTo n c fr g tt (k + 1) = mustTo n c fr g tt k ++ [(k : Int)] := by
  simp [mustTo, List.range_succ, h]
theorem mustTo_out {n : Nt} {c : Cch} {fr g tt : Int} {k : Nat} (h : comes (without n k) c [] (fr, g) tt = true) : mustTo n c fr g tt (k + 1) = mustTo n c fr g tt k := by
  simp [mustTo, List.range_succ, h]
theorem mustTo_length (n : Nt) (c : Cch) (fr g tt : Int) (k : Nat) : (mustTo n c fr g tt k).length ≤ k := by
  have := List.length_filter_le (fun i => !comes (without n i) c [] (fr, g) tt) (List.range k)
  simpa [mustTo] using this
theorem mem_mustTo {n : Nt} {c : Cch} {fr g tt : Int} {k i : Nat} : (i : Int) ∈ mustTo n c fr g tt k ↔ i < k ∧ comes (without n i) c [] (fr, g) tt = false := by
  simp only [mustTo, List.mem_map, List.mem_filter, List.mem_range, Bool.not_eq_true']
  constructor
  · rintro ⟨j, hj, he⟩
    have : j = i := by omega
    subst this
    exact hj
  · intro h
    exact ⟨i, h, rfl⟩
theorem mustTo_up (n : Nt) (c : Cch) (fr g tt : Int) (k : Nat) : (mustTo n c fr g tt k).Pairwise (· < ·) := by
  unfold mustTo
  rw [List.pairwise_map]
  refine List.Pairwise.imp (fun h => ?_) (List.Pairwise.filter _ List.pairwise_lt_range)
  omega
theorem mustTo_lt {n : Nt} {c : Cch} {fr g tt : Int} {k : Nat} : ∀ x ∈ mustTo n c fr g tt k, x < k := by
  intro x hx
  simp only [mustTo, List.mem_map, List.mem_filter, List.mem_range] at hx
  obtain ⟨j, ⟨hj, _⟩, rfl⟩ := hx
  omega
theorem tracksErr_all {s : Int} : ∀ {l : List Trk}, (∀ t ∈ l, trackErr s t = 0) → tracksErr s l = 0
  | [], _ => rfl
  | t :: l, h => by
    rw [tracksErr, if_pos (h t (by simp))]
    exact tracksErr_all fun u hu => h u (by simp [hu])
theorem tracksErr_each {s : Int} : ∀ {l : List Trk}, tracksErr s l = 0 → ∀ t ∈ l, trackErr s t = 0
  | u :: l, h, t, ht => by
    rw [tracksErr] at h
    by_cases hu : trackErr s u = 0
    · rw [if_pos hu] at h
      rcases List.mem_cons.1 ht with rfl | ht
      · exact hu
      · exact tracksErr_each h t ht
    · rw [if_neg hu] at h; exact absurd h hu
theorem check_without {n : Nt} (h : check n = 0) (i : Nat) : check (without n i) = 0 := by
  unfold check at h ⊢
  by_cases h1 : out n.stops 1 6 = true
  · rw [if_pos h1] at h; cases h
  · rw [if_neg h1] at h
    by_cases h2 : 8 < n.tracks.length
    · rw [if_pos h2] at h; cases h
    · rw [if_neg h2] at h
      have hl : (n.tracks.eraseIdx i).length ≤ n.tracks.length := by
        rw [List.length_eraseIdx]
        split <;> omega
      by_cases h3 : tracksErr n.stops n.tracks = 0
      · rw [if_pos h3] at h
        have h4 : tracksErr n.stops (n.tracks.eraseIdx i) = 0 := tracksErr_all fun t ht => tracksErr_each h3 t (List.mem_of_mem_eraseIdx ht)
        show (if out n.stops 1 6 = true then (1 : Int) else if 8 < (n.tracks.eraseIdx i).length then 6 else if tracksErr n.stops (n.tracks.eraseIdx i) = 0 then rising n.shops 0 (n.stops - 1) 3 else tracksErr n.stops (n.tracks.eraseIdx i)) = 0
        rw [if_neg h1, if_neg (by omega), if_pos h4]
        exact h
      · rw [if_neg h3] at h; exact absurd h h3
theorem question_without {n : Nt} {c : Cch} {fr g : Int} (hc : check n = 0) (h : question n c fr g = 0) (i : Nat) : question (without n i) c fr g = 0 := by
  have hw := check_without hc i
  unfold question both at h ⊢
  rw [hc] at h
  rw [hw]
  exact h
end Go.Proofs.YtpbjpochjagicaaGreat.Pl

namespace Go.Proofs.YtpbjpochjagicaaGreat
open Go.RowKit

def zeroTrk : List Value := [.int .i64 0, .int .i64 0, .int .i64 0, .int .i64 0, .int .i64 0, .int .i64 0, .int .i64 0, .int .i64 0, .bool false]
theorem run_clear_trk (w : World) (ty : TypeId) (b o c : Nat) (hc : ∀ j, j < 9 → (w.cell? ⟨b, o + j, none⟩).isSome = true) (hf : ∀ j, j < 9 → w.frozen? ⟨b, o + j, none⟩ = false) :
    (Builtin.clear_ #[22] ty #[.slice (some ⟨b, o, none⟩) 1 c]).run Tryz.prog w = .ok (.tuple #[]) (w.setCells b o zeroTrk) := by
  have hzc : (Builtin.zeroCells (Value.agg #[.int .i64 0, .int .i64 0, .int .i64 0, .int .i64 0, .int .i64 0, .int .i64 0, .int .i64 0, .int .i64 0, .bool false]).cells 1).toList = zeroTrk := by kernel_rfl
  have hst := run_storeCells_cells (P := Tryz.prog) b o zeroTrk 0 w (by simpa [zeroTrk] using hc) (by simpa [zeroTrk] using hf) (by intro v hv; simp [zeroTrk] at hv; rcases hv with rfl | rfl <;> rfl)
  simp only [Nat.add_zero] at hst
  have hv : (zeroValue 107).run Tryz.prog w = .ok (.agg #[.int .i64 0, .int .i64 0, .int .i64 0, .int .i64 0, .int .i64 0, .int .i64 0, .int .i64 0, .int .i64 0, .bool false]) w := by kernel_rfl
  simp [Builtin.clear_, run_underlying Tryz.underlying22, hv, hzc, hst]

theorem isSome_sets (b : Nat) : ∀ (vs : List Value) (o : Nat) (w : World) (q : Addr), (w.cell? q).isSome = true → ((w.setCells b o vs).cell? q).isSome = true
  | [], _, _, _, h => h
  | v :: r, o, w, q, h => isSome_sets b r (o + 1) _ q (by
    by_cases e : q = ⟨b, o, none⟩
    · subst e
      obtain ⟨u, hu⟩ := Option.isSome_iff_exists.1 h
      rw [World.cell?_setCell_same _ _ _ hu]; rfl
    · rw [World.cell?_setCell_other _ _ _ _ (fun e2 => e e2.symm)]; exact h)

set_option maxRecDepth 20000 in
set_option maxHeartbeats 2000000 in
theorem delete_trks (base g c : Nat) (ts : List Pl.Trk) (i : Nat) (hi : i < ts.length) (w : World) (ho : OwnTrks w base (some ⟨g, 0, none⟩) c ts) (hlen : ts.length ≤ 1000) :
    Calls Tryz.prog 67 #[.slice (some ⟨g, 0, none⟩) ts.length c, .int .i64 i, .int .i64 ((i : Int) + 1)] w fun e w' => e = .returned (.slice (some ⟨g, 0, none⟩) (ts.length - 1) c) ∧ Trks w' w'.heap.size (some ⟨g, 0, none⟩) (ts.eraseIdx i) ∧ Below base w w' := by
  obtain ⟨cur, hbg, hblk, hcap, hmax, hsz, htake⟩ : ∃ cur, base ≤ g ∧ w.heap[g]? = some (.cells cur 107 (0, 0)) ∧ ts.length ≤ c ∧ c ≤ maxLen ∧ cur.size = c * 9 ∧ cur.toList.take (ts.length * 9) = ts.flatMap trkCells := by
    rcases ho.2 with ⟨h, _⟩ | ⟨g', cap', cur, hv, h1, h2, h3, h4, h5, h6⟩
    · cases h
    · injection hv with hv hv1 hv2
      injection hv with hv
      injection hv with hv
      subst hv hv2
      exact ⟨cur, h1, h2, h3, h4, h5, h6⟩
  obtain ⟨i0, hi0, hz0, hz1, hz2⟩ := info_parts trk_info
  have hcell : ∀ j, j < c * 9 → (w.cell? ⟨g, j, none⟩).isSome = true := fun j hj => by
    rw [blk_cell hblk j, Array.getElem?_eq_getElem (by omega)]; rfl
  have hfro : ∀ j, w.frozen? ⟨g, j, none⟩ = false := fun j => blk_frozen hblk j
  have hcells : ∀ j u, (ts.flatMap trkCells)[j]? = some u → w.cell? ⟨g, j, none⟩ = some u := fun j u hu => by
    rw [← htake] at hu
    rw [blk_cell hblk j, ← Array.getElem?_toList]
    rw [List.getElem?_take] at hu
    split at hu
    · exact hu
    · cases hu
  -- what is moved to the left
  obtain ⟨m, hm⟩ : ∃ m, m = ts.length - (i + 1) := ⟨_, rfl⟩
  obtain ⟨news, hnews⟩ : ∃ news, news = (ts.drop (i + 1)).flatMap trkCells := ⟨_, rfl⟩
  have hnl : news.length = (ts.length - (i + 1)) * 9 := by rw [hnews, flat_length, List.length_drop]
  have hget : ∀ j u, news[j]? = some u → w.cell? ⟨g, (i + 1) * 9 + j, none⟩ = some u := fun j u hu => by
    refine hcells _ u ?_
    rw [hnews] at hu
    obtain ⟨k, q, t, rfl, hq, hk, ht⟩ := flat_div hu
    rw [List.getElem?_drop] at hk
    rw [show (i + 1) * 9 + (k * 9 + q) = (i + 1 + k) * 9 + q by omega, flat_at ts (i + 1 + k) q t hq hk]
    exact ht
  obtain ⟨A, hA, hsrc⟩ : ∃ A : Addr, (if c = i + 1 then some (⟨g, 0, none⟩ : Addr) else some ⟨g, (i + 1) * 9, none⟩) = some A ∧ Hid (∀ j u, news[j]? = some u → w.drew.cell? (A.add j) = some u) := by
    by_cases h : c = i + 1
    · refine ⟨⟨g, 0, none⟩, by simp [h], fun j u hu => ?_⟩
      have h0 : news.length = 0 := by rw [hnl]; omega
      rw [List.length_eq_zero_iff.1 h0] at hu
      simp at hu
    · refine ⟨⟨g, (i + 1) * 9, none⟩, by simp [h], fun j u hu => ?_⟩
      have := hget j u hu
      rw [show (Addr.add ⟨g, (i + 1) * 9, none⟩ j) = ⟨g, (i + 1) * 9 + j, none⟩ by unfold Addr.add; split <;> simp_all]
      exact this
  have s2 : Hid (∀ u ∈ news, u.oneCell' = true) := by rw [hnews]; exact flat_one
  have s3 : Hid (∀ j, j < news.length → (w.drew.cell? ⟨g, 0 + i * 9 + j, none⟩).isSome = true ∧ w.drew.frozen? ⟨g, 0 + i * 9 + j, none⟩ = false) := fun j hj => by
    rw [hnl] at hj
    exact ⟨hcell _ (by omega), hfro _⟩
  have s1 := Lib.hid hnl
  obtain ⟨W1, hW1⟩ : ∃ W1, W1 = w.drew.setCells g (0 + i * 9) news := ⟨_, rfl⟩
  have hcell1 : ∀ j, j < c * 9 → (W1.cell? ⟨g, j, none⟩).isSome = true := fun j hj => by
    rw [hW1]; exact isSome_sets g news _ w.drew _ (hcell j hj)
  have hfro1 : ∀ j, W1.frozen? ⟨g, j, none⟩ = false := fun j => by
    rw [hW1, World.frozen?_setCells]; exact hfro j
  obtain ⟨W2, hW2⟩ : ∃ W2, W2 = W1.setCells g ((i + (ts.length - (i + 1))) * 9) zeroTrk := ⟨_, rfl⟩
  have hcl : (Builtin.clear_ #[22] 0 #[.slice (some ⟨g, (i + (ts.length - (i + 1))) * 9, none⟩) (ts.length - (i + (ts.length - (i + 1)))) (c - (i + (ts.length - (i + 1))))]).run Tryz.prog W1 = .ok (.tuple #[]) W2 := by
    rw [hW2, show ts.length - (i + (ts.length - (i + 1))) = 1 by omega]
    exact run_clear_trk W1 0 g _ _ (fun j hj => hcell1 _ (by omega)) (fun j _ => hfro1 _)
  have hout : ∀ x, x < (ts.length - 1) * 9 → W2.cell? ⟨g, x, none⟩ = W1.cell? ⟨g, x, none⟩ := fun x hx => by
    rw [hW2]
    exact World.cell?_setCells_out g zeroTrk _ W1 _ (fun _ _ => .inl (by show x < _; omega))
  have hT : Trks W2 W2.heap.size (some ⟨g, 0, none⟩) (ts.eraseIdx i) := fun k t hk => by
    refine ⟨g, 0, rfl, ?_, fun j v hv => ?_⟩
    · have hg : g < w.heap.size := lt_of_block hblk
      have hb1 : w.heap.size ≤ W1.heap.size := by rw [hW1]; exact (below_setCells (B := 0) (Nat.zero_le _) news _ w.drew (Below.refl _ _).drew).size
      have hb2 : W1.heap.size ≤ W2.heap.size := by rw [hW2]; exact (below_setCells (B := 0) (Nat.zero_le _) zeroTrk _ W1 (Below.refl _ _)).size
      omega
    · have hj9 : j < 9 := by have := (List.getElem?_eq_some_iff.1 hv).1; simpa [trkCells] using this
      have hkl : k < ts.length - 1 := by
        have := (List.getElem?_eq_some_iff.1 hk).1
        rw [List.length_eraseIdx] at this
        rw [if_pos hi] at this
        exact this
      rw [show 0 + k * 9 + j = k * 9 + j by omega, hout _ (by omega), hW1]
      by_cases hki : k < i
      · rw [World.cell?_setCells_out g news _ w.drew _ (fun _ _ => .inl (by show k * 9 + j < _; omega))]
        rw [List.getElem?_eraseIdx, if_pos hki] at hk
        exact hcells _ v (by rw [flat_at ts k j t hj9 hk]; exact hv)
      · rw [List.getElem?_eraseIdx, if_neg hki] at hk
        have hjn : (k - i) * 9 + j < news.length := by rw [hnl]; omega
        have := World.cell?_setCells_in g news (0 + i * 9) w.drew (fun q hq => hcell _ (by rw [hnl] at hq; omega)) ((k - i) * 9 + j) hjn
        rw [show 0 + i * 9 + ((k - i) * 9 + j) = k * 9 + j by omega] at this
        rw [this, ← List.getElem?_eq_getElem hjn, hnews, flat_at (ts.drop (i + 1)) (k - i) j t hj9 (by rw [List.getElem?_drop, show i + 1 + (k - i) = k + 1 by omega]; exact hk)]
        exact hv
  have hBW : Below base w W2 := by
    rw [hW2, hW1]
    exact below_setCells hbg zeroTrk _ _ (below_setCells hbg news _ w.drew (Below.refl _ _).drew)
  have HT := Lib.hid hT
  have HBW := Lib.hid hBW
  have hW := Lib.hid hW1
  have hic : i ≤ c := by omega
  have hjc : i + 1 ≤ c := by omega
  have hi0' : (0 : Int) ≤ (i : Int) + 1 := by omega
  have hi1' : (i : Int) + 1 ≤ (ts.length : Int) := by omega
  have hc63 : c ≤ 9223372036854775807 := by simp only [maxLen] at hmax; omega
  clear hW1 hW2 hout hT hBW hm hcell1 hfro1 hcell hfro hcells hget hnews hnl htake hblk ho hmax hsz
  go_enter Tryz.func67, Tryz.ntmps67
  go_wp2_with fail
  go_region_law (refine step_append_room rfl (.tmp 22) (.tmp 25) 22 rfl 107 i0 9 Tryz.underlying22 hi0 hz1 g 0 i c (by simp [Act.eval, Act.put]) A (ts.length - (i + 1)) (c - (i + 1)) news (by simp [Act.eval, Act.put]) s1.out hsrc.out s2.out (by omega) s3.out ?_; rw [← hW.out])
  go_wp2_with fail
  go_ret
  exact ⟨by rw [show i + (ts.length - (i + 1)) = ts.length - 1 by omega]; rfl, HT.out, HBW.out⟩
end Go.Proofs.YtpbjpochjagicaaGreat

namespace Go.Proofs.YtpbjpochjagicaaGreat
open Go.RowKit

theorem Reads.first {w : World} {B size n : Nat} {A : Option Addr} {xs : List Value} (h : Reads w B size A n xs) {k : Nat} (hk : k ≤ n) : Reads w B size A k (xs.take (k * size)) := by
  refine ⟨by rw [List.length_take, h.1]; exact Nat.min_eq_left (Nat.mul_le_mul_right _ hk), fun h0 => ?_⟩
  obtain ⟨ad, h1, h2, h3⟩ := h.2 (by omega)
  refine ⟨ad, h1, h2, fun j u hu => ?_⟩
  rw [List.getElem?_take] at hu
  split at hu
  · exact h3 j u hu
  · cases hu
theorem flat_take (ts : List Pl.Trk) (k : Nat) : (ts.flatMap trkCells).take (k * 9) = (ts.take k).flatMap trkCells := by
  induction ts generalizing k with
  | nil => simp
  | cons t l ih =>
    cases k with
    | zero => simp
    | succ k =>
      rw [List.flatMap_cons, List.take_succ_cons, List.flatMap_cons, List.take_append, ← ih k]
      have e : (trkCells t).length = 9 := rfl
      rw [e, List.take_of_length_le (by rw [e]; omega), show (k + 1) * 9 - 9 = k * 9 by omega]
theorem flat_drop (ts : List Pl.Trk) (k : Nat) : (ts.flatMap trkCells).drop (k * 9) = (ts.drop k).flatMap trkCells := by
  induction ts generalizing k with
  | nil => simp
  | cons t l ih =>
    cases k with
    | zero => simp
    | succ k =>
      rw [List.flatMap_cons, List.drop_succ_cons, List.drop_append, ← ih k]
      have e : (trkCells t).length = 9 := rfl
      rw [e, List.drop_eq_nil_of_le (by rw [e]; omega), show (k + 1) * 9 - 9 = k * 9 by omega, List.nil_append]

theorem own_ge {w : World} {base e size n m : Nat} {A : Option Addr} {c : Nat} {xs : List Value} (h : w.ownsRow base e size (.slice A n c) m xs) : ∀ k, (Value.slice A n c).ownBlock = some k → base ≤ k := fun k hk => (h.lt k hk).1
/-- A net without a line, its lines in new memory. -/
def WithoutPost (n : Pl.Nt) (i : Nat) (sA : Option Addr) (sc : Nat) (w : World) (e : Ending) (w' : World) : Prop :=
  ∃ A c, e = .returned (.agg #[.int .i64 (Pl.without n i).stops, .slice A (Pl.without n i).tracks.length c, .slice sA (Pl.without n i).shops.length sc]) ∧ NReads w' w'.heap.size (Pl.without n i) A sA c sc ∧ Below w.heap.size w w'

end Go.Proofs.YtpbjpochjagicaaGreat

namespace Go.Proofs.YtpbjpochjagicaaGreat
open Go.RowKit

/-- What Must hands back, where the question is a good one. -/
def MustPost (n : Pl.Nt) (c : Pl.Cch) (fr g ds : Int) (w : World) (e : Ending) (w' : World) : Prop :=
  ∃ A k cp v, e = .returned (.tuple #[.slice A k cp, .int .i64 v]) ∧ Below w.heap.size w w' ∧ (Pl.comes n c [] (fr, g) ds = false → v = 11 ∧ k = 0) ∧
    (Pl.comes n c [] (fr, g) ds = true → v = 0 ∧ k = (Pl.must n c fr g ds).length ∧ Ints w' w'.heap.size A (Pl.must n c fr g ds))
theorem without_length {n : Pl.Nt} {k : Nat} (hk : k < n.tracks.length) : (Pl.without n k).tracks.length = n.tracks.length - 1 := by
  show (n.tracks.eraseIdx k).length = _
  rw [List.length_eraseIdx, if_pos hk]

theorem Trks.far {w w' : World} {B g : Nat} {ts : List Pl.Trk} (h : Trks w B (some ⟨g, 0, none⟩) ts) (hb : w'.heap[g]? = w.heap[g]?) : Trks w' B (some ⟨g, 0, none⟩) ts := fun k t hk => by
  obtain ⟨b, off, h1, h2, h3⟩ := h k t hk
  refine ⟨b, off, h1, h2, fun j v hv => ?_⟩
  injection h1 with h1
  injection h1 with e1 e2 _
  subst e1
  rw [World.cell?_of_block (a := ⟨g, off + k * 9 + j, none⟩) hb]
  exact h3 j v hv
theorem own_set_at {w : World} {b : Nat} {A : Option Addr} {c : Nat} {xs : List Int} (h : OwnInts w b A c xs) {q : Nat} {z : Array Value} {T : TypeId} (hq : w.heap[q]? = some (.cells z T (0, 0))) (hT : T ≠ 3) (i : Nat) (u : Value) : OwnInts (w.setCell ⟨q, i, none⟩ u) b A c xs := by
  refine ⟨h.1, ?_⟩
  rcases h.2 with h2 | ⟨g, cap, cur, hv, hg, hh, r⟩
  · exact .inl h2
  · refine .inr ⟨g, cap, cur, hv, hg, ?_, r⟩
    refine (Below.heap_setCell w ⟨q, i, none⟩ u g (fun e => ?_)).trans hh
    have e : g = q := e
    subst e
    rw [hq] at hh
    injection hh with hh
    injection hh with _ hh _
    exact hT hh

set_option maxRecDepth 100000 in
set_option maxHeartbeats 4000000 in
theorem must_any (n : Pl.Nt) (n_tA n_sA : Option Addr) (n_tc n_sc : Nat) (c : Pl.Cch) (c_gA c_bA c_hA : Option Addr) (c_gc c_bc c_hc : Nat) (fr g ds : Int) (w : World) (hn : NReads w w.heap.size n n_tA n_sA n_tc n_sc) (hr : CReads w w.heap.size c c_gA c_bA c_hA c_gc c_bc c_hc) (hA : Pl.asked n c fr g ds = 0) :
    Calls Tryz.prog 27 #[.agg #[.int .i64 n.stops, .slice n_tA n.tracks.length n_tc, .slice n_sA n.shops.length n_sc], .agg #[.slice c_gA c.gauges.length c_gc, .int .i64 c.size, .int .i64 c.load, .slice c_bA c.brakes.length c_bc, .slice c_hA c.heats.length c_hc, .bool c.hooks], .int .i64 fr, .int .i64 g, .int .i64 ds] w (MustPost n c fr g ds w) := by
  have hb2 : Below w.heap.size w ((w.alloc (.cells #[.int .i64 n.stops, .slice n_tA n.tracks.length n_tc, .slice n_sA n.shops.length n_sc] 25)).alloc (.cells #[.slice c_gA c.gauges.length c_gc, .int .i64 c.size, .int .i64 c.load, .slice c_bA c.brakes.length c_bc, .slice c_hA c.heats.length c_hc, .bool c.hooks] 27)) := ((Below.refl _ _).alloc (Nat.le_refl _) _).alloc (by simp) _
  have hsz : ((w.alloc (.cells #[.int .i64 n.stops, .slice n_tA n.tracks.length n_tc, .slice n_sA n.shops.length n_sc] 25)).alloc (.cells #[.slice c_gA c.gauges.length c_gc, .int .i64 c.size, .int .i64 c.load, .slice c_bA c.brakes.length c_bc, .slice c_hA c.heats.length c_hc, .bool c.hooks] 27)).heap.size = w.heap.size + 1 + 1 := by simp
  have Hn := Lib.hid ((hn.below hb2).more (B' := w.heap.size + 1 + 1) (by omega))
  have Hr := Lib.hid ((hr.below hb2).more (B' := w.heap.size + 1 + 1) (by omega))
  have HM0 : Hid (((w.alloc (.cells #[.int .i64 n.stops, .slice n_tA n.tracks.length n_tc, .slice n_sA n.shops.length n_sc] 25)).alloc (.cells #[.slice c_gA c.gauges.length c_gc, .int .i64 c.size, .int .i64 c.load, .slice c_bA c.brakes.length c_bc, .slice c_hA c.heats.length c_hc, .bool c.hooks] 27)).heap[w.heap.size]? = some (.cells #[.int .i64 n.stops, .slice n_tA n.tracks.length n_tc, .slice n_sA n.shops.length n_sc] 25 (0, 0))) := blk_alloc (heap_alloc_new w _) _
  have HM1 : Hid (((w.alloc (.cells #[.int .i64 n.stops, .slice n_tA n.tracks.length n_tc, .slice n_sA n.shops.length n_sc] 25)).alloc (.cells #[.slice c_gA c.gauges.length c_gc, .int .i64 c.size, .int .i64 c.load, .slice c_bA c.brakes.length c_bc, .slice c_hA c.heats.length c_hc, .bool c.hooks] 27)).heap[w.heap.size + 1]? = some (.cells #[.slice c_gA c.gauges.length c_gc, .int .i64 c.size, .int .i64 c.load, .slice c_bA c.brakes.length c_bc, .slice c_hA c.heats.length c_hc, .bool c.hooks] 27 (0, 0))) := by
    have := heap_alloc_new (w.alloc (.cells #[.int .i64 n.stops, .slice n_tA n.tracks.length n_tc, .slice n_sA n.shops.length n_sc] 25)) (.cells #[.slice c_gA c.gauges.length c_gc, .int .i64 c.size, .int .i64 c.load, .slice c_bA c.brakes.length c_bc, .slice c_hA c.heats.length c_hc, .bool c.hooks] 27)
    show _ = _
    simpa using this
  have HB2 := Lib.hid hb2
  have hq := asked_q hA
  obtain ⟨hboth, hfo, hgm⟩ := question_b hq.1
  obtain ⟨hck, hft⟩ := both_check hboth
  have hfo' := out_false hfo
  have hgr := (fits_lists hft).1 g hgm
  have hT8 := (check_tracks hck).1
  have HU : Hid (∀ k x, Pl.Gets (Pl.run (Pl.without n k) c []) (Pl.without n k).tracks.length (fr, g) x → x ∈ places) := fun k => gets_in (Pl.check_without hck k) hfo'.1 hfo'.2 (by show 0 ≤ g; omega) (by show g ≤ 3; omega)
  have HU0 := Lib.hid (asked_in (c' := c) (reb := []) hA)
  have HQ := Lib.hid (asked_yes n n_tA n_sA n_tc n_sc c c_gA c_bA c_hA c_gc c_bc c_hc fr g ds _ (by rw [hsz]; exact Hn.out) (by rw [hsz]; exact Hr.out) hA)
  clear hb2 hn hr hA hsz hq hboth hfo hgm hck hft hfo' hgr
  go_enter Tryz.func27, Tryz.ntmps27
  go_wp2_with fail
  refine HQ.out.mono ?_
  rintro e w1 ⟨X, N, rfl, hcar, hX, hN, hb⟩
  clear HQ
  have Hcar := Lib.hid hcar; have Hb := Lib.hid hb
  have hXs := hcar.ltX
  have hNs := hcar.ltN
  clear hcar hb
  go_wp2_with fail
  have hs1 : w.heap.size + 1 + 1 ≤ w1.heap.size := by have := Hb.out.size; simpa using this
  obtain ⟨w2, hw2⟩ : ∃ w2, w2 = w1.alloc (.cells #[.int .i64 fr, .int .i64 g] 65) := ⟨_, rfl⟩
  have hb12 : Below w1.heap.size w1 w2 := by rw [hw2]; exact (Below.refl _ _).alloc (Nat.le_refl _) _
  have hpb : w2.heap[w1.heap.size]? = some (.cells #[.int .i64 fr, .int .i64 g] 65 (0, 0)) := by rw [hw2]; exact heap_alloc_new w1 _
  have hW2 : Below w.heap.size w w2 := (HB2.out.trans (Hb.out.mono (by simp; omega))).trans (hb12.mono (by omega))
  have hbb : Below (w.heap.size + 1 + 1) ((w.alloc (.cells #[.int .i64 n.stops, .slice n_tA n.tracks.length n_tc, .slice n_sA n.shops.length n_sc] 25)).alloc (.cells #[.slice c_gA c.gauges.length c_gc, .int .i64 c.size, .int .i64 c.load, .slice c_bA c.brakes.length c_bc, .slice c_hA c.heats.length c_hc, .bool c.hooks] 27)) w2 := (Hb.out.mono (by simp)).trans (hb12.mono hs1)
  have hm0 := blk_below HM0.out hbb (by omega)
  have hm1 := blk_below HM1.out hbb (by omega)
  have Hcar2 := Lib.hid (Hcar.out.below hb12 hXs hNs)
  have Hn2 := Lib.hid ((Hn.out.below hbb).more (Nat.le_trans hs1 hb12.size))
  have Hr2 := Lib.hid ((Hr.out.below hbb).more (Nat.le_trans hs1 hb12.size))
  have HM02 := Lib.hid hm0
  have HM12 := Lib.hid hm1
  have HPB := Lib.hid hpb
  have HW2 := Lib.hid hW2
  have hs2 : w1.heap.size < w2.heap.size := lt_of_block hpb
  have c0 : w2.cell? ⟨w1.heap.size, 0, none⟩ = some (.int .i64 fr) := blk_cell hpb 0
  have c1 : w2.cell? ⟨w1.heap.size, 1, none⟩ = some (.int .i64 g) := blk_cell hpb 1
  clear hb12 hpb hW2 hbb hm0 hm1 Hb Hcar Hn Hr HM0 HM1 HB2 hX hN
  rw [← hw2]
  clear hw2
  generalize hp1 : w1.heap.size = PB at *
  clear hp1
  go_wp2_with fail
  refine (comes_any X N c c_gA c_bA c_hA c_gc c_bc c_hc n n_tA n_sA n_tc n_sc none [] 0 (fr, g) ds w2 Hcar2.out Hr2.out Hn2.out (Ints.nil _ _ _) (by simp) places HU0.out places_length).mono ?_
  rintro e w3 ⟨rfl, hb3⟩
  have HW3 := Lib.hid (HW2.out.trans (hb3.mono HW2.out.size))
  clear Hcar2
  cases hC : Pl.comes n c [] (fr, g) ds
  · clear hb3
    go_wp2_with fail
    go_ret2
    exact ⟨none, 0, 0, 11, rfl, HW3.out, fun _ => ⟨rfl, rfl⟩, fun h => by rw [hC] at h; cases h⟩
  · have D0 : Hid (Below w2.heap.size w2 w3) := hb3
    have hm0 := blk_below HM02.out hb3 (lt_of_block HM02.out)
    have z1 : w3.cell? ⟨w.heap.size, 1, none⟩ = some (.slice n_tA n.tracks.length n_tc) := blk_cell hm0 1
    have hmust : Hid (∀ k, k < n.tracks.length → Pl.comes (Pl.without n k) c [] (fr, g) ds = false → Pl.mustTo n c fr g ds (k + 1) = Pl.mustTo n c fr g ds k ++ [(k : Int)]) := fun k _ h => Pl.mustTo_in h
    have hskip : Hid (∀ k, k < n.tracks.length → Pl.comes (Pl.without n k) c [] (fr, g) ds = true → Pl.mustTo n c fr g ds (k + 1) = Pl.mustTo n c fr g ds k) := fun k _ h => Pl.mustTo_out h
    have hlen : Hid (∀ k, (Pl.mustTo n c fr g ds k).length ≤ k) := fun k => Pl.mustTo_length n c fr g ds k
    have hs3 : w2.heap.size ≤ w3.heap.size := hb3.size
    clear hb3 hm0 HW3
    go_wp2_with fail
    go_loopw [15, 39] (fun lv iv wr => ∃ (A : Option Addr) (cp k : Nat), k ≤ n.tracks.length ∧ lv = .slice A (Pl.mustTo n c fr g ds k).length cp ∧ iv = .int .i64 k ∧ Hid (OwnInts wr w2.heap.size A cp (Pl.mustTo n c fr g ds k)) ∧ Hid (Below w2.heap.size w2 wr)) (fun _ i _ => n.tracks.length - (intOf i).toNat)
    case atStart => exact ⟨none, 0, 0, by omega, rfl, rfl, OwnInts.nil _ _, D0⟩
    case round =>
      obtain ⟨A, cp, k, hk, rfl, rfl, hO, hB⟩ := hrel
      clear z1
      have hsr : w2.heap.size ≤ wr.heap.size := hB.out.size
      by_cases hkl : k < n.tracks.length
      · have hm0 := blk_below HM02.out hB.out (lt_of_block HM02.out)
        have hm1 := blk_below HM12.out hB.out (lt_of_block HM12.out)
        have hpb := blk_below HPB.out hB.out hs2
        have M0 := Lib.hid hm0
        have M1 := Lib.hid hm1
        have MP := Lib.hid hpb
        have z0 : wr.cell? ⟨w.heap.size, 0, none⟩ = some (.int .i64 n.stops) := blk_cell hm0 0
        have z1 : wr.cell? ⟨w.heap.size, 1, none⟩ = some (.slice n_tA n.tracks.length n_tc) := blk_cell hm0 1
        have z2 : wr.cell? ⟨w.heap.size, 2, none⟩ = some (.slice n_sA n.shops.length n_sc) := blk_cell hm0 2
        have hl0 := lt_of_block hm0
        have hl1 := lt_of_block hm1
        have hlp := lt_of_block hpb
        have hkk : (k : Int) < (n.tracks.length : Int) := by omega
        clear hm0 hm1 hpb
        go_wp2_with fail
        have hR0 : Hid ((wr.alloc (.cells #[.int .i64 n.stops, .slice n_tA n.tracks.length n_tc, .slice n_sA n.shops.length n_sc] 25)).heap[wr.heap.size]? = some (.cells #[.int .i64 n.stops, .slice n_tA n.tracks.length n_tc, .slice n_sA n.shops.length n_sc] 25 (0, 0))) := heap_alloc_new wr _
        have hBa : Below w2.heap.size w2 (wr.alloc (.cells #[.int .i64 n.stops, .slice n_tA n.tracks.length n_tc, .slice n_sA n.shops.length n_sc] 25)) := hB.out.alloc hsr _
        have hsa : (wr.alloc (.cells #[.int .i64 n.stops, .slice n_tA n.tracks.length n_tc, .slice n_sA n.shops.length n_sc] 25)).heap.size = wr.heap.size + 1 := by simp
        have HBa := Lib.hid hBa
        have HNa := Lib.hid ((Hn2.out.below hBa).more hBa.size)
        have HOa := Lib.hid (own_alloc hO.out (.cells #[.int .i64 n.stops, .slice n_tA n.tracks.length n_tc, .slice n_sA n.shops.length n_sc] 25))
        have Ma0 := Lib.hid (blk_alloc M0.out (.cells #[.int .i64 n.stops, .slice n_tA n.tracks.length n_tc, .slice n_sA n.shops.length n_sc] 25))
        have Ma1 := Lib.hid (blk_alloc M1.out (.cells #[.int .i64 n.stops, .slice n_tA n.tracks.length n_tc, .slice n_sA n.shops.length n_sc] 25))
        have MaP := Lib.hid (blk_alloc MP.out (.cells #[.int .i64 n.stops, .slice n_tA n.tracks.length n_tc, .slice n_sA n.shops.length n_sc] 25))
        have HSA := Lib.hid hsa
        clear hBa hsa z0 z1 z2
        generalize wr.alloc (.cells #[.int .i64 n.stops, .slice n_tA n.tracks.length n_tc, .slice n_sA n.shops.length n_sc] 25) = wa at *
        refine (clone_trks n_tA n_tc n.tracks wa HNa.out.tracks (by omega)).mono ?_
        rintro e wb ⟨A1, c1, rfl, hown1, hb1⟩
        obtain ⟨g1, hg1⟩ : ∃ g1, A1 = some ⟨g1, 0, none⟩ := by
          rcases hown1.2 with ⟨_, h0⟩ | ⟨g1, _, _, h0, _⟩
          · omega
          · injection h0 with h0; exact ⟨g1, h0⟩
        subst hg1
        have HO1 := Lib.hid hown1
        have HB1 := Lib.hid hb1
        have hgb : wa.heap.size ≤ g1 := own_ge hown1 g1 rfl
        clear hown1 hb1
        go_wp2_with fail
        refine (delete_trks wa.heap.size g1 c1 n.tracks k hkl wb HO1.out (by omega)).mono ?_
        rintro e wc ⟨rfl, hT, hb2⟩
        have hbc := HB1.out.trans hb2
        have HT := Lib.hid hT
        have HBC := Lib.hid hbc
        have hxr := blk_below hR0.out hbc (by rw [HSA.out]; omega)
        have q0 : wc.cell? ⟨wr.heap.size, 0, none⟩ = some (.int .i64 n.stops) := blk_cell hxr 0
        have q1 : wc.cell? ⟨wr.heap.size, 1, none⟩ = some (.slice n_tA n.tracks.length n_tc) := blk_cell hxr 1
        have f1 : wc.frozen? ⟨wr.heap.size, 1, none⟩ = false := blk_frozen hxr 1
        have HXR := Lib.hid hxr
        have hy := blk_below Ma1.out hbc (by rw [HSA.out]; omega)
        have y0 : wc.cell? ⟨w.heap.size + 1, 0, none⟩ = some (.slice c_gA c.gauges.length c_gc) := blk_cell hy 0
        have y1 : wc.cell? ⟨w.heap.size + 1, 1, none⟩ = some (.int .i64 c.size) := blk_cell hy 1
        have y2 : wc.cell? ⟨w.heap.size + 1, 2, none⟩ = some (.int .i64 c.load) := blk_cell hy 2
        have y3 : wc.cell? ⟨w.heap.size + 1, 3, none⟩ = some (.slice c_bA c.brakes.length c_bc) := blk_cell hy 3
        have y4 : wc.cell? ⟨w.heap.size + 1, 4, none⟩ = some (.slice c_hA c.heats.length c_hc) := blk_cell hy 4
        have y5 : wc.cell? ⟨w.heap.size + 1, 5, none⟩ = some (.bool c.hooks) := blk_cell hy 5
        have hp := blk_below MaP.out hbc (by rw [HSA.out]; omega)
        have p0 : wc.cell? ⟨PB, 0, none⟩ = some (.int .i64 fr) := blk_cell hp 0
        have p1 : wc.cell? ⟨PB, 1, none⟩ = some (.int .i64 g) := blk_cell hp 1
        have hne1 : w.heap.size + 1 ≠ wr.heap.size := by omega
        have hne2 : PB ≠ wr.heap.size := by omega
        have hsc : wa.heap.size ≤ wc.heap.size := hbc.size
        have hpl : PB < wc.heap.size := lt_of_block hp
        clear hT hb2 hbc hxr hy hp HB1 HO1 hR0
        go_wp2_with fail
        have hsw : wa.heap.size = wr.heap.size + 1 := HSA.out
        have hXd : (wc.setCell ⟨wr.heap.size, 1, none⟩ (.slice (some ⟨g1, 0, none⟩) (n.tracks.length - 1) c1)).heap[wr.heap.size]? = some (.cells #[.int .i64 n.stops, .slice (some ⟨g1, 0, none⟩) (n.tracks.length - 1) c1, .slice n_sA n.shops.length n_sc] 25 (0, 0)) := by
          have := blk_set (i := 1) HXR.out (.slice (some ⟨g1, 0, none⟩) (n.tracks.length - 1) c1)
          simpa using this
        have hBd : Below w2.heap.size w2 (wc.setCell ⟨wr.heap.size, 1, none⟩ (.slice (some ⟨g1, 0, none⟩) (n.tracks.length - 1) c1)) := (HBa.out.trans (HBC.out.mono (by omega))).setCell hsr _
        have hszd : (wc.setCell ⟨wr.heap.size, 1, none⟩ (.slice (some ⟨g1, 0, none⟩) (n.tracks.length - 1) c1)).heap.size = wc.heap.size := size_setCell _ _ _
        have hTd : Trks (wc.setCell ⟨wr.heap.size, 1, none⟩ (.slice (some ⟨g1, 0, none⟩) (n.tracks.length - 1) c1)) wc.heap.size (some ⟨g1, 0, none⟩) (Pl.without n k).tracks := Trks.far HT.out (Below.heap_setCell wc _ _ g1 (by show g1 ≠ wr.heap.size; omega))
        have hOd := own_set_at (own_below HOa.out HBC.out (Nat.le_refl _)) HXR.out (by decide) 1 (.slice (some ⟨g1, 0, none⟩) (n.tracks.length - 1) c1)
        have HXD := Lib.hid hXd
        have HBD := Lib.hid hBd
        have HSZD := Lib.hid hszd
        have HTD := Lib.hid hTd
        have HOD := Lib.hid hOd
        clear hXd hBd hszd hTd hOd q0 q1 f1 y0 y1 y2 y3 y4 y5 p0 p1 hne1 hne2 hsc hpl HXR HT HOa
        generalize wc.setCell ⟨wr.heap.size, 1, none⟩ (.slice (some ⟨g1, 0, none⟩) (n.tracks.length - 1) c1) = wd at *
        have hs2d : w2.heap.size ≤ wd.heap.size := HBD.out.size
        have hcar := car_made wd c c_gA c_bA c_hA c_gc c_bc c_hc (Pl.without n k) (some ⟨g1, 0, none⟩) n_sA c1 n_sc (N := wr.heap.size) (by rw [without_length hkl]; exact HXD.out)
        rw [HSZD.out] at hcar
        have HCAR := Lib.hid hcar
        have HNe : Hid (NReads (wd.alloc (.cells (#[.slice c_gA c.gauges.length c_gc, .int .i64 c.size, .int .i64 c.load, .slice c_bA c.brakes.length c_bc, .slice c_hA c.heats.length c_hc, .bool c.hooks] ++ #[.pointer (some ⟨wr.heap.size, 0, none⟩), .slice none 0 0]) 76)) (wd.alloc (.cells (#[.slice c_gA c.gauges.length c_gc, .int .i64 c.size, .int .i64 c.load, .slice c_bA c.brakes.length c_bc, .slice c_hA c.heats.length c_hc, .bool c.hooks] ++ #[.pointer (some ⟨wr.heap.size, 0, none⟩), .slice none 0 0]) 76)).heap.size (Pl.without n k) (some ⟨g1, 0, none⟩) n_sA c1 n_sc) :=
          ⟨(HTD.out.alloc (Nat.le_of_eq HSZD.out.symm) _).more (by simp [HSZD.out]), ((Hn2.out.shops.below HBD.out).alloc hs2d _).more (by simp; omega), by rw [without_length hkl]; omega, Hn2.out.lenS⟩
        have HRe : Hid (CReads (wd.alloc (.cells (#[.slice c_gA c.gauges.length c_gc, .int .i64 c.size, .int .i64 c.load, .slice c_bA c.brakes.length c_bc, .slice c_hA c.heats.length c_hc, .bool c.hooks] ++ #[.pointer (some ⟨wr.heap.size, 0, none⟩), .slice none 0 0]) 76)) (wd.alloc (.cells (#[.slice c_gA c.gauges.length c_gc, .int .i64 c.size, .int .i64 c.load, .slice c_bA c.brakes.length c_bc, .slice c_hA c.heats.length c_hc, .bool c.hooks] ++ #[.pointer (some ⟨wr.heap.size, 0, none⟩), .slice none 0 0]) 76)).heap.size c c_gA c_bA c_hA c_gc c_bc c_hc) := ((Hr2.out.below HBD.out).alloc hs2d _).more (by simp; omega)
        refine (comes_any wc.heap.size wr.heap.size c c_gA c_bA c_hA c_gc c_bc c_hc (Pl.without n k) (some ⟨g1, 0, none⟩) n_sA c1 n_sc none [] 0 (fr, g) ds _ HCAR.out HRe.out HNe.out (Ints.nil _ _ _) (by simp) places (HU.out k) places_length).mono ?_
        rintro e wf ⟨rfl, hbf⟩
        have HBF := Lib.hid ((HBD.out.alloc hs2d (.cells (#[.slice c_gA c.gauges.length c_gc, .int .i64 c.size, .int .i64 c.load, .slice c_bA c.brakes.length c_bc, .slice c_hA c.heats.length c_hc, .bool c.hooks] ++ #[.pointer (some ⟨wr.heap.size, 0, none⟩), .slice none 0 0]) 76)).trans (hbf.mono (by simp; omega)))
        have HOF := Lib.hid (own_below (own_alloc HOD.out (.cells (#[.slice c_gA c.gauges.length c_gc, .int .i64 c.size, .int .i64 c.load, .slice c_bA c.brakes.length c_bc, .slice c_hA c.heats.length c_hc, .bool c.hooks] ++ #[.pointer (some ⟨wr.heap.size, 0, none⟩), .slice none 0 0]) 76)) hbf (Nat.le_refl _))
        have hsf : w2.heap.size ≤ wf.heap.size := HBF.out.size
        clear hcar HCAR HNe HRe hbf HXD HBD HTD HOD
        have hlk := hlen.out k
        cases hcm : Pl.comes (Pl.without n k) c [] (fr, g) ds
        · have hN := Lib.hid (hmust.out k hkl hcm)
          clear hcm
          go_wp2_with (at_builtin; refine wpl_app_ints rfl (.tmp 58) (.tmp 60) 23 rfl w2.heap.size Tryz.underlying23 int_info A cp (Pl.mustTo n c fr g ds k) rfl (own_alloc HOF.out _) (wf.heap.size + 1) (some ⟨wf.heap.size, 0, none⟩) 1 [(k : Int)] rfl (ints_one _ _ _ (by simp) (by omega)) (by simp; omega) (by simp; omega) ?_; intro A2 c2 w4 hown4 hg4 hat4; have hfar : Below w2.heap.size w2 w4 := HBF.out.trans (((Below.refl _ _).alloc hsf _).grown hg4 (by simp; omega) (own_from HOF.out)); have Hfar := Lib.hid hfar; have Hown4 := Lib.hid hown4; clear hfar hown4 hg4 hat4)
          go_roundw
          case rel => exact ⟨A2, c2, k + 1, by omega, (by rw [hN.out]; simp), by go_num, (by show OwnInts _ _ _ _ _; rw [hN.out]; exact Hown4.out), Hfar⟩
          case measure => simp [intOf]; omega
        · have hN := Lib.hid (hskip.out k hkl hcm)
          clear hcm
          go_wp2_with fail
          go_roundw
          case rel => exact ⟨A, cp, k + 1, by omega, (by rw [hN.out]), by go_num, (by show OwnInts _ _ _ _ _; rw [hN.out]; exact HOF.out), HBF⟩
          case measure => simp [intOf]; omega
      · obtain rfl : k = n.tracks.length := by omega
        have hz := hO.out.ints
        have HZ := Lib.hid hz
        clear hz hO
        go_wp2_with fail
        go_ret2
        exact ⟨A, _, cp, 0, rfl, HW2.out.trans (hB.out.mono HW2.out.size), (fun h => by rw [hC] at h; cases h), fun _ => ⟨rfl, rfl, HZ.out⟩⟩
end Go.Proofs.YtpbjpochjagicaaGreat

namespace Go.Proofs.YtpbjpochjagicaaGreat.Pl
theorem run_without {n : Nt} {c : Cch} {p : Place} {i k : Nat} : run (without n i) c [] p k = run n c [] p (if k < i then k else k + 1) := by
  unfold run without
  have e : (n.tracks.eraseIdx i).getD k default = n.tracks.getD (if k < i then k else k + 1) default := by
    rw [List.getD_eq_getElem?_getD, List.getD_eq_getElem?_getD, List.getElem?_eraseIdx]
    split <;> rfl
  simp only [List.not_mem_nil, decide_false]
  rw [e]
theorem gets_without {n : Nt} {c : Cch} {p z : Place} {i : Nat} (hi : i < n.tracks.length) : Gets (stepB n c [] i) n.tracks.length p z ↔ Gets (run (without n i) c []) (without n i).tracks.length p z := by
  have hlen : (without n i).tracks.length = n.tracks.length - 1 := by
    show (n.tracks.eraseIdx i).length = _
    rw [List.length_eraseIdx, if_pos hi]
  constructor
  · intro h
    induction h with
    | refl => exact .refl
    | @step x j _ hj hz ih =>
      obtain ⟨hne, e⟩ := stepB_run hz
      have hne2 : j ≠ i := fun h => hne (by rw [h])
      have e2 : run (without n i) c [] x (if j < i then j else j - 1) = run n c [] x j := by
        rw [run_without]
        congr 1
        by_cases hji : j < i
        · rw [if_pos hji, if_pos hji]
        · rw [if_neg hji, if_neg (by omega)]; omega
      rw [e] at hz ⊢
      rw [← e2] at hz ⊢
      exact ih.step (by rw [hlen]; split <;> omega) hz
  · intro h
    induction h with
    | refl => exact .refl
    | @step x k _ hk hz ih =>
      rw [run_without] at hz ⊢
      have hne : ((if k < i then k else k + 1 : Nat) : Int) ≠ (i : Int) := by split <;> omega
      rw [← stepB_on (reb := []) (p := x) (n := n) (c := c) hne] at hz ⊢
      exact ih.step (by rw [hlen] at hk; split <;> omega) hz
end Go.Proofs.YtpbjpochjagicaaGreat.Pl
namespace Go.Proofs.YtpbjpochjagicaaGreat
open Go.RowKit

theorem comesB_without {n : Pl.Nt} {c : Pl.Cch} {fr g ds : Int} {i : Nat} (hA : Pl.asked n c fr g ds = 0) (hi : i < n.tracks.length) : Pl.comesB n c [] i (fr, g) ds = Pl.comes (Pl.without n i) c [] (fr, g) ds := by
  obtain ⟨h1, h2, f0, f1, hg, s0, s1⟩ := asked_good hA
  obtain ⟨hp0, d0, d5⟩ := spot_of hA
  have hgr := (fits_lists h2).1 g hg
  have hf := fine_spots (c := c) (reb := []) (but := (i : Int)) h1 hp0
  have hU : ∀ x, Pl.Gets (Pl.stepB n c [] i) n.tracks.length (fr, g) x → x ∈ Pl.spots := by
    intro x hx
    induction hx with
    | refl => exact hp0
    | step _ hi hz ih => exact hf.close _ ih _ hi hz
  have hb := (Pl.bfs_all (Pl.stepB n c [] i) n.tracks.length (fr, g) Pl.spots hU 100 (by have := Pl.spots_length; omega)).2
  rw [Bool.eq_iff_iff, Pl.comes_gets places (gets_in (Pl.check_without h1 i) f0 f1 (by show 0 ≤ g; omega) (by show g ≤ 3; omega)) places_length]
  unfold Pl.comesB
  rw [List.any_eq_true]
  constructor
  · rintro ⟨z, hz, e⟩
    exact ⟨z, (Pl.gets_without hi).1 ((hb z).1 hz), by simpa using e⟩
  · rintro ⟨z, hz, e⟩
    exact ⟨z, (hb z).2 ((Pl.gets_without hi).2 hz), by simpa using e⟩
def mustList (n : Pl.Nt) (c : Pl.Cch) (fr g ds : Int) : List Int := if Pl.asked n c fr g ds = 0 then (if Pl.comes n c [] (fr, g) ds then Pl.must n c fr g ds else []) else []
def mustErr (n : Pl.Nt) (c : Pl.Cch) (fr g ds : Int) : Int := if Pl.asked n c fr g ds = 0 then (if Pl.comes n c [] (fr, g) ds then 0 else 11) else Pl.asked n c fr g ds
def MustsPost (L : List Int) (v : Int) (w : World) (e : Ending) (w' : World) : Prop := ∃ A cp, e = .returned (.tuple #[.slice A L.length cp, .int .i64 v]) ∧ Ints w' w'.heap.size A L ∧ Below w.heap.size w w'

set_option maxRecDepth 20000 in
set_option maxHeartbeats 8000000 in
/-- The program's. -/
theorem pmust_any (n : Pl.Nt) (n_tA n_sA : Option Addr) (n_tc n_sc : Nat) (c : Pl.Cch) (c_gA c_bA c_hA : Option Addr) (c_gc c_bc c_hc : Nat) (fr g ds : Int) (w : World) (hn : NReads w w.heap.size n n_tA n_sA n_tc n_sc) (hr : CReads w w.heap.size c c_gA c_bA c_hA c_gc c_bc c_hc) :
    Calls Tryz.prog 27 #[.agg #[.int .i64 n.stops, .slice n_tA n.tracks.length n_tc, .slice n_sA n.shops.length n_sc], .agg #[.slice c_gA c.gauges.length c_gc, .int .i64 c.size, .int .i64 c.load, .slice c_bA c.brakes.length c_bc, .slice c_hA c.heats.length c_hc, .bool c.hooks], .int .i64 fr, .int .i64 g, .int .i64 ds] w (MustsPost (mustList n c fr g ds) (mustErr n c fr g ds) w) := by
  by_cases hA : Pl.asked n c fr g ds = 0
  · refine (must_any n n_tA n_sA n_tc n_sc c c_gA c_bA c_hA c_gc c_bc c_hc fr g ds w hn hr hA).mono ?_
    rintro e w' ⟨A, k, cp, v, rfl, hb, h0, h1⟩
    unfold mustList mustErr
    rw [if_pos hA, if_pos hA]
    cases hC : Pl.comes n c [] (fr, g) ds
    · obtain ⟨rfl, rfl⟩ := h0 hC
      exact ⟨A, cp, rfl, Ints.nil _ _ _, hb⟩
    · obtain ⟨rfl, rfl, hI⟩ := h1 hC
      exact ⟨A, cp, rfl, hI, hb⟩
  · have hb2 : Below w.heap.size w ((w.alloc (.cells #[.int .i64 n.stops, .slice n_tA n.tracks.length n_tc, .slice n_sA n.shops.length n_sc] 25)).alloc (.cells #[.slice c_gA c.gauges.length c_gc, .int .i64 c.size, .int .i64 c.load, .slice c_bA c.brakes.length c_bc, .slice c_hA c.heats.length c_hc, .bool c.hooks] 27)) := ((Below.refl _ _).alloc (Nat.le_refl _) _).alloc (by simp) _
    have HQ := Lib.hid (asked_no n n_tA n_sA n_tc n_sc c c_gA c_bA c_hA c_gc c_bc c_hc fr g ds ((w.alloc (.cells #[.int .i64 n.stops, .slice n_tA n.tracks.length n_tc, .slice n_sA n.shops.length n_sc] 25)).alloc (.cells #[.slice c_gA c.gauges.length c_gc, .int .i64 c.size, .int .i64 c.load, .slice c_bA c.brakes.length c_bc, .slice c_hA c.heats.length c_hc, .bool c.hooks] 27)) ((hn.below hb2).more hb2.size) ((hr.below hb2).more hb2.size) hA)
    have HB2 := Lib.hid hb2
    have hb : (Pl.asked n c fr g ds != 0) = true := by rw [bne_iff_ne]; exact hA
    have HL : Hid (mustList n c fr g ds = []) := if_neg hA
    have HE : Hid (mustErr n c fr g ds = Pl.asked n c fr g ds) := if_neg hA
    clear hA hn hr hb2
    generalize mustList n c fr g ds = L at HL ⊢
    generalize mustErr n c fr g ds = v at HE ⊢
    go_enter Tryz.func27, Tryz.ntmps27
    go_wp2_with fail
    refine HQ.out.mono ?_
    rintro e w1 ⟨rfl, hb1⟩
    have HW := Lib.hid (HB2.out.trans (hb1.mono HB2.out.size))
    clear hb1 HQ
    go_wp2_with fail
    go_ret2
    rw [HL.out, HE.out]
    exact ⟨none, 0, rfl, Ints.nil _ _ _, by first | exact HW.out.alloc HW.out.size _ | exact HW.out⟩

set_option maxRecDepth 20000 in
set_option maxHeartbeats 8000000 in
/-- The reference's. -/
theorem rmust_any (n : Pl.Nt) (n_tA n_sA : Option Addr) (n_tc n_sc : Nat) (c : Pl.Cch) (c_gA c_bA c_hA : Option Addr) (c_gc c_bc c_hc : Nat) (fr g ds : Int) (w : World) (hn : NReads w w.heap.size n n_tA n_sA n_tc n_sc) (hr : CReads w w.heap.size c c_gA c_bA c_hA c_gc c_bc c_hc) :
    Calls Tryz.prog 28 #[.agg #[.int .i64 n.stops, .slice n_tA n.tracks.length n_tc, .slice n_sA n.shops.length n_sc], .agg #[.slice c_gA c.gauges.length c_gc, .int .i64 c.size, .int .i64 c.load, .slice c_bA c.brakes.length c_bc, .slice c_hA c.heats.length c_hc, .bool c.hooks], .int .i64 fr, .int .i64 g, .int .i64 ds] w (MustsPost (mustList n c fr g ds) (mustErr n c fr g ds) w) := by
  obtain ⟨w2, hw2⟩ : ∃ w2, w2 = (w.alloc (.cells #[.int .i64 n.stops, .slice n_tA n.tracks.length n_tc, .slice n_sA n.shops.length n_sc] 25)).alloc (.cells #[.slice c_gA c.gauges.length c_gc, .int .i64 c.size, .int .i64 c.load, .slice c_bA c.brakes.length c_bc, .slice c_hA c.heats.length c_hc, .bool c.hooks] 27) := ⟨_, rfl⟩
  have hb2 : Below w.heap.size w w2 := by rw [hw2]; exact ((Below.refl _ _).alloc (Nat.le_refl _) _).alloc (by simp) _
  have hbn : w2.heap[w.heap.size]? = some (.cells #[.int .i64 n.stops, .slice n_tA n.tracks.length n_tc, .slice n_sA n.shops.length n_sc] 25 (0, 0)) := by rw [hw2]; exact blk_alloc (heap_alloc_new _ _) _
  have hbc : w2.heap[w.heap.size + 1]? = some (.cells #[.slice c_gA c.gauges.length c_gc, .int .i64 c.size, .int .i64 c.load, .slice c_bA c.brakes.length c_bc, .slice c_hA c.heats.length c_hc, .bool c.hooks] 27 (0, 0)) := by rw [hw2]; simpa using heap_alloc_new (w.alloc (.cells #[.int .i64 n.stops, .slice n_tA n.tracks.length n_tc, .slice n_sA n.shops.length n_sc] 25)) (.cells #[.slice c_gA c.gauges.length c_gc, .int .i64 c.size, .int .i64 c.load, .slice c_bA c.brakes.length c_bc, .slice c_hA c.heats.length c_hc, .bool c.hooks] 27)
  have HN := Lib.hid hn
  have HR := Lib.hid hr
  have HW2 := Lib.hid hw2
  have HB2 := Lib.hid hb2
  have HS2 : Hid (w.heap.size + 1 < w2.heap.size) := lt_of_block hbc
  have HAS := Lib.hid (rasked_any n n_tA n_sA n_tc n_sc c c_gA c_bA c_hA c_gc c_bc c_hc fr g ds w2 ((hn.below hb2).more hb2.size) ((hr.below hb2).more hb2.size))
  have HKP := Lib.hid (boxes_keep n n_tA n_sA n_tc n_sc c c_gA c_bA c_hA c_gc c_bc c_hc hbn hbc)
  obtain ⟨⟨x0, x1, x2⟩, y0, y1, y2, y3, y4, y5⟩ := HKP.out _ (Below.refl _ _)
  clear hn hr hb2 hbn hbc hw2
  by_cases hA : Pl.asked n c fr g ds = 0
  · obtain ⟨hp0, d0, d5⟩ := spot_of hA
    have hck := (asked_good hA).1
    have ht8 := (check_tracks hck).1
    have HC : Hid (∀ (W : World) (but : Int), Below w.heap.size w W → Calls Tryz.prog 45 #[.agg #[.int .i64 n.stops, .slice n_tA n.tracks.length n_tc, .slice n_sA n.shops.length n_sc], .agg #[.slice c_gA c.gauges.length c_gc, .int .i64 c.size, .int .i64 c.load, .slice c_bA c.brakes.length c_bc, .slice c_hA c.heats.length c_hc, .bool c.hooks], .slice none ([] : List Int).length 0, .int .i64 but, .agg #[.int .i64 fr, .int .i64 g], .int .i64 ds] W fun e w' => e = .returned (.bool (Pl.comesB n c [] but (fr, g) ds)) ∧ Below W.heap.size W w') := fun W but hW =>
      rcomes_any n n_tA n_sA n_tc n_sc c c_gA c_bA c_hA c_gc c_bc c_hc none [] 0 but fr g ds W ((HN.out.below hW).more hW.size) ((HR.out.below hW).more hW.size) (Ints.nil _ _ _) (by simp) hck hp0 d0 d5
    have HC1 : Hid (Pl.comesB n c [] (-1) (fr, g) ds = Pl.comes n c [] (fr, g) ds) := Pl.comesB_all
    have HCW : Hid (∀ i, i < n.tracks.length → Pl.comesB n c [] ((i : Nat) : Int) (fr, g) ds = Pl.comes (Pl.without n i) c [] (fr, g) ds) := fun i hi => comesB_without hA hi
    have hmust : Hid (∀ k, Pl.comes (Pl.without n k) c [] (fr, g) ds = false → Pl.mustTo n c fr g ds (k + 1) = Pl.mustTo n c fr g ds k ++ [(k : Int)]) := fun k h => Pl.mustTo_in h
    have hskip : Hid (∀ k, Pl.comes (Pl.without n k) c [] (fr, g) ds = true → Pl.mustTo n c fr g ds (k + 1) = Pl.mustTo n c fr g ds k) := fun k h => Pl.mustTo_out h
    have hlen : Hid (∀ k, (Pl.mustTo n c fr g ds k).length ≤ k) := fun k => Pl.mustTo_length n c fr g ds k
    rw [hA] at HAS
    cases hcm : Pl.comes n c [] (fr, g) ds
    · have HL : Hid (mustList n c fr g ds = []) := by show _ = _; unfold mustList; rw [if_pos hA, hcm]; rfl
      have HE : Hid (mustErr n c fr g ds = 11) := by show _ = _; unfold mustErr; rw [if_pos hA, hcm]; rfl
      rw [hcm] at HC1
      clear hck hp0 hA hcm hmust hskip hlen HCW
      generalize mustList n c fr g ds = L at HL ⊢
      generalize mustErr n c fr g ds = v at HE ⊢
      go_enter Tryz.func28, Tryz.ntmps28
      go_upto_region 1 with fail
      rw [← HW2.out]
      go_upto_region 4 with (go_at_call 43; refine HAS.out.mono ?_; rintro e w5 ⟨rfl, hb5⟩; have HB5 := Lib.hid hb5; clear hb5 x0 x1 x2 y0 y1 y2 y3 y4 y5)
      obtain ⟨⟨x0, x1, x2⟩, y0, y1, y2, y3, y4, y5⟩ := HKP.out _ HB5.out
      have HBW := Lib.hid (HB2.out.trans (HB5.out.mono HB2.out.size))
      go_wp2_with (go_at_call 45; refine (HC.out _ (-1) HBW.out).mono ?_; rintro e w6 ⟨rfl, hb6⟩; rw [HC1.out]; have HB6 := Lib.hid (HBW.out.trans (hb6.mono HBW.out.size)); clear hb6 x0 x1 x2 y0 y1 y2 y3 y4 y5)
      go_ret2
      rw [HL.out, HE.out]
      exact ⟨none, 0, rfl, Ints.nil _ _ _, HB6.out⟩
    · have HL : Hid (mustList n c fr g ds = Pl.mustTo n c fr g ds n.tracks.length) := by show _ = _; unfold mustList; rw [if_pos hA, hcm]; rfl
      have HE : Hid (mustErr n c fr g ds = 0) := by show _ = _; unfold mustErr; rw [if_pos hA, hcm]; rfl
      rw [hcm] at HC1
      clear hck hp0 hA hcm
      generalize mustList n c fr g ds = L at HL ⊢
      generalize mustErr n c fr g ds = v at HE ⊢
      go_enter Tryz.func28, Tryz.ntmps28
      go_upto_region 1 with fail
      rw [← HW2.out]
      go_upto_region 4 with (go_at_call 43; refine HAS.out.mono ?_; rintro e w5 ⟨rfl, hb5⟩; have HB5 := Lib.hid hb5; clear hb5 x0 x1 x2 y0 y1 y2 y3 y4 y5)
      obtain ⟨⟨x0, x1, x2⟩, y0, y1, y2, y3, y4, y5⟩ := HKP.out _ HB5.out
      have HBW := Lib.hid (HB2.out.trans (HB5.out.mono HB2.out.size))
      go_wp2_with (go_at_call 45; refine (HC.out _ (-1) HBW.out).mono ?_; rintro e w6 ⟨rfl, hb6⟩; rw [HC1.out]; have HB6 := Lib.hid (HBW.out.trans (hb6.mono HBW.out.size)); have HB62 := Lib.hid (HB5.out.trans (hb6.mono HB5.out.size)); clear hb6 x0 x1 x2 y0 y1 y2 y3 y4 y5)
      go_loopw [13, 14] (fun lv iv wr => ∃ (A : Option Addr) (cp k : Nat), k ≤ n.tracks.length ∧ lv = .slice A (Pl.mustTo n c fr g ds k).length cp ∧ iv = .int .i64 k ∧ Hid (OwnInts wr w6.heap.size A cp (Pl.mustTo n c fr g ds k)) ∧ Hid (Below w6.heap.size w6 wr)) (fun _ i _ => n.tracks.length - (intOf i).toNat)
      case atStart => exact ⟨none, 0, 0, Nat.zero_le _, rfl, rfl, ⟨rfl, .inl ⟨rfl, rfl⟩⟩, Below.refl _ _⟩
      case round =>
        obtain ⟨A, cp, k, hk, rfl, rfl, hO, hB⟩ := hrel
        have HBR := Lib.hid (HB62.out.trans (hB.out.mono HB62.out.size))
        obtain ⟨⟨x0, x1, x2⟩, y0, y1, y2, y3, y4, y5⟩ := HKP.out _ HBR.out
        have hws := hB.out.size
        have hlk := hlen.out k
        by_cases hks : k < n.tracks.length
        · have hki : (k : Int) < (n.tracks.length : Int) := by omega
          have HBV := Lib.hid (HB6.out.trans (hB.out.mono HB6.out.size))
          cases hcw : Pl.comes (Pl.without n k) c [] (fr, g) ds
          · have HE2 := Lib.hid (hmust.out k hcw)
            have HCV := Lib.hid ((HCW.out k hks).trans hcw)
            clear hcw
            go_wp2_with (first
              | (go_at_call 45; refine (HC.out _ (k : Int) HBV.out).mono ?_; rintro e w7 ⟨rfl, hb7⟩; rw [HCV.out]; have HB7 := Lib.hid (hB.out.trans (hb7.mono hws)); have HO7 := Lib.hid (own_below hO.out hb7 (Nat.le_refl _)); have hs7 := HB7.out.size; clear hb7 x0 x1 x2 y0 y1 y2 y3 y4 y5)
              | (at_builtin; refine wpl_app_ints rfl (.tmp 48) (.tmp 50) 23 rfl w6.heap.size Tryz.underlying23 int_info A cp (Pl.mustTo n c fr g ds k) rfl (own_alloc HO7.out _) (w7.heap.size + 1) (some ⟨w7.heap.size, 0, none⟩) 1 [(k : Int)] rfl (ints_one _ _ _ (by simp) (by omega)) (by simp; omega) (by simp; omega) ?_; intro A2 c2 w8 hown8 hg8 hat8; have Hfar := Lib.hid ((HB7.out.alloc HB7.out.size _).grown hg8 (by simp; omega) (own_from HO7.out)); have Hown8 := Lib.hid hown8; clear hown8 hg8 hat8))
            go_roundw
            case rel => exact ⟨A2, c2, k + 1, by omega, by rw [HE2.out]; simp, by go_num, by rw [HE2.out]; exact Hown8, Hfar⟩
            case measure => simp [intOf]; omega
          · have HE2 := Lib.hid (hskip.out k hcw)
            have HCV := Lib.hid ((HCW.out k hks).trans hcw)
            clear hcw
            go_wp2_with (go_at_call 45; refine (HC.out _ (k : Int) HBV.out).mono ?_; rintro e w7 ⟨rfl, hb7⟩; rw [HCV.out]; have HB7 := Lib.hid (hB.out.trans (hb7.mono hws)); have HO7 := Lib.hid (own_below hO.out hb7 (Nat.le_refl _)); clear hb7 x0 x1 x2 y0 y1 y2 y3 y4 y5)
            go_roundw
            case rel => exact ⟨A, cp, k + 1, by omega, by rw [HE2.out], by go_num, by rw [HE2.out]; exact HO7, HB7⟩
            case measure => simp [intOf]; omega
        · obtain rfl : k = n.tracks.length := by omega
          have hkf : decide ((n.tracks.length : Int) < (n.tracks.length : Int)) = false := by simp
          clear hks
          go_wp2_with fail
          go_ret2
          rw [HL.out, HE.out]
          exact ⟨A, cp, rfl, hO.out.ints, HB6.out.trans (hB.out.mono HB6.out.size)⟩
  · have hq : (Pl.asked n c fr g ds != 0) = true := by rw [bne_iff_ne]; exact hA
    have HL : Hid (mustList n c fr g ds = []) := if_neg hA
    have HE : Hid (mustErr n c fr g ds = Pl.asked n c fr g ds) := if_neg hA
    clear hA
    generalize mustList n c fr g ds = L at HL ⊢
    generalize mustErr n c fr g ds = v at HE ⊢
    generalize Pl.asked n c fr g ds = q at hq HE HAS
    go_enter Tryz.func28, Tryz.ntmps28
    go_upto_region 1 with fail
    rw [← HW2.out]
    go_wp2_with (go_at_call 43; refine HAS.out.mono ?_; rintro e w5 ⟨rfl, hb5⟩; have HB5 := Lib.hid hb5; clear hb5 x0 x1 x2 y0 y1 y2 y3 y4 y5)
    go_ret2
    rw [HL.out, HE.out]
    exact ⟨none, 0, rfl, Ints.nil _ _ _, HB2.out.trans (HB5.out.mono HB2.out.size)⟩
end Go.Proofs.YtpbjpochjagicaaGreat
