/- Walks: a line is struck out of a list of the call's own: slices.Delete. Walks: a net without a line, as the laws make it: without. -/
import Derived.Test.YtpbjpochjagicaaGreatDoorRROt
import Derived.Test.YtpbjpochjagicaaGreatDoorRRW51
import Derived.Deep.RegionLaw
import Derived.Lib.LazyBuf
import Derived.Test.YtpbjpochjagicaaGreatDoorRRMs
import Derived.Test.YtpbjpochjagicaaGreatDoorRRW10
import Derived.Deep.RegionLawGrows
import Derived.IntWalk
namespace Go.Proofs.YtpbjpochjagicaaGreatDoorRR
open Go.RowKit

def zeroTrk : List Value := [.int .i64 0, .int .i64 0, .int .i64 0, .int .i64 0, .int .i64 0, .int .i64 0, .int .i64 0, .int .i64 0, .bool false]
theorem run_clear_trk (w : World) (ty : TypeId) (b o c : Nat) (hc : ∀ j, j < 9 → (w.cell? ⟨b, o + j, none⟩).isSome = true) (hf : ∀ j, j < 9 → w.frozen? ⟨b, o + j, none⟩ = false) :
    (Builtin.clear_ #[22] ty #[.slice (some ⟨b, o, none⟩) 1 c]).run Tryz.prog w = .ok (.tuple #[]) (w.setCells b o zeroTrk) := by
  have hzc : (Builtin.zeroCells (Value.agg #[.int .i64 0, .int .i64 0, .int .i64 0, .int .i64 0, .int .i64 0, .int .i64 0, .int .i64 0, .int .i64 0, .bool false]).cells 1).toList = zeroTrk := by kernel_rfl
  have hst := run_storeCells_cells (P := Tryz.prog) b o zeroTrk 0 w (by simpa [zeroTrk] using hc) (by simpa [zeroTrk] using hf) (by intro v hv; simp [zeroTrk] at hv; rcases hv with rfl | rfl <;> rfl)
  simp only [Nat.add_zero] at hst
  have hv : (zeroValue 31).run Tryz.prog w = .ok (.agg #[.int .i64 0, .int .i64 0, .int .i64 0, .int .i64 0, .int .i64 0, .int .i64 0, .int .i64 0, .int .i64 0, .bool false]) w := by kernel_rfl
  simp [Builtin.clear_, run_underlying Tryz.underlying22, hv, hzc, hst]

theorem isSome_sets (b : Nat) : ∀ (vs : List Value) (o : Nat) (w : World) (q : Addr), (w.cell? q).isSome = true → ((w.setCells b o vs).cell? q).isSome = true
  | [], _, _, _, h => h
  | v :: r, o, w, q, h => isSome_sets b r (o + 1) _ q (by
    by_cases e : q = ⟨b, o, none⟩
    · subst e
      obtain ⟨u, hu⟩ := Option.isSome_iff_exists.1 h
      rw [World.cell?_setCell_same _ _ _ hu]; rfl
    · rw [World.cell?_setCell_other _ _ _ _ (fun e2 => e e2.symm)]; exact h)

set_option maxRecDepth 20000 in
set_option maxHeartbeats 2000000 in
theorem delete_trks (base g c : Nat) (ts : List Pl.Trk) (i : Nat) (hi : i < ts.length) (w : World) (ho : OwnTrks w base (some ⟨g, 0, none⟩) c ts) (hlen : ts.length ≤ 1000) :
    Calls Tryz.prog 44 #[.slice (some ⟨g, 0, none⟩) ts.length c, .int .i64 i, .int .i64 ((i : Int) + 1)] w fun e w' => e = .returned (.slice (some ⟨g, 0, none⟩) (ts.length - 1) c) ∧ Trks w' w'.heap.size (some ⟨g, 0, none⟩) (ts.eraseIdx i) ∧ Below base w w' := by
  obtain ⟨cur, hbg, hblk, hcap, hmax, hsz, htake⟩ : ∃ cur, base ≤ g ∧ w.heap[g]? = some (.cells cur 31 (0, 0)) ∧ ts.length ≤ c ∧ c ≤ maxLen ∧ cur.size = c * 9 ∧ cur.toList.take (ts.length * 9) = ts.flatMap trkCells := by
    rcases ho.2 with ⟨h, _⟩ | ⟨g', cap', cur, hv, h1, h2, h3, h4, h5, h6⟩
    · cases h
    · injection hv with hv hv1 hv2
      injection hv with hv
      injection hv with hv
      subst hv hv2
      exact ⟨cur, h1, h2, h3, h4, h5, h6⟩
  obtain ⟨i0, hi0, hz0, hz1, hz2⟩ := info_parts trk_info
  have hcell : ∀ j, j < c * 9 → (w.cell? ⟨g, j, none⟩).isSome = true := fun j hj => by
    rw [blk_cell hblk j, Array.getElem?_eq_getElem (by omega)]; rfl
  have hfro : ∀ j, w.frozen? ⟨g, j, none⟩ = false := fun j => blk_frozen hblk j
  have hcells : ∀ j u, (ts.flatMap trkCells)[j]? = some u → w.cell? ⟨g, j, none⟩ = some u := fun j u hu => by
    rw [← htake] at hu
    rw [blk_cell hblk j, ← Array.getElem?_toList]
    rw [List.getElem?_take] at hu
    split at hu
    · exact hu
    · cases hu
  -- what is moved to the left
  obtain ⟨m, hm⟩ : ∃ m, m = ts.length - (i + 1) := ⟨_, rfl⟩
  obtain ⟨news, hnews⟩ : ∃ news, news = (ts.drop (i + 1)).flatMap trkCells := ⟨_, rfl⟩
  have hnl : news.length = (ts.length - (i + 1)) * 9 := by rw [hnews, flat_length, List.length_drop]
  have hget : ∀ j u, news[j]? = some u → w.cell? ⟨g, (i + 1) * 9 + j, none⟩ = some u := fun j u hu => by
    refine hcells _ u ?_
    rw [hnews] at hu
    obtain ⟨k, q, t, rfl, hq, hk, ht⟩ := flat_div hu
    rw [List.getElem?_drop] at hk
    rw [show (i + 1) * 9 + (k * 9 + q) = (i + 1 + k) * 9 + q by omega, flat_at ts (i + 1 + k) q t hq hk]
    exact ht
  obtain ⟨A, hA, hsrc⟩ : ∃ A : Addr, (if c = i + 1 then some (⟨g, 0, none⟩ : Addr) else some ⟨g, (i + 1) * 9, none⟩) = some A ∧ Hid (∀ j u, news[j]? = some u → w.drew.cell? (A.add j) = some u) := by
    by_cases h : c = i + 1
    · refine ⟨⟨g, 0, none⟩, by simp [h], fun j u hu => ?_⟩
      have h0 : news.length = 0 := by rw [hnl]; omega
      rw [List.length_eq_zero_iff.1 h0] at hu
      simp at hu
    · refine ⟨⟨g, (i + 1) * 9, none⟩, by simp [h], fun j u hu => ?_⟩
      have := hget j u hu
      rw [show (Addr.add ⟨g, (i + 1) * 9, none⟩ j) = ⟨g, (i + 1) * 9 + j, none⟩ by unfold Addr.add; split <;> simp_all]
      exact this
  have s2 : Hid (∀ u ∈ news, u.oneCell' = true) := by rw [hnews]; exact flat_one
  have s3 : Hid (∀ j, j < news.length → (w.drew.cell? ⟨g, 0 + i * 9 + j, none⟩).isSome = true ∧ w.drew.frozen? ⟨g, 0 + i * 9 + j, none⟩ = false) := fun j hj => by
    rw [hnl] at hj
    exact ⟨hcell _ (by omega), hfro _⟩
  have s1 := Lib.hid hnl
  obtain ⟨W1, hW1⟩ : ∃ W1, W1 = w.drew.setCells g (0 + i * 9) news := ⟨_, rfl⟩
  have hcell1 : ∀ j, j < c * 9 → (W1.cell? ⟨g, j, none⟩).isSome = true := fun j hj => by
    rw [hW1]; exact isSome_sets g news _ w.drew _ (hcell j hj)
  have hfro1 : ∀ j, W1.frozen? ⟨g, j, none⟩ = false := fun j => by
    rw [hW1, World.frozen?_setCells]; exact hfro j
  obtain ⟨W2, hW2⟩ : ∃ W2, W2 = W1.setCells g ((i + (ts.length - (i + 1))) * 9) zeroTrk := ⟨_, rfl⟩
  have hcl : (Builtin.clear_ #[22] 0 #[.slice (some ⟨g, (i + (ts.length - (i + 1))) * 9, none⟩) (ts.length - (i + (ts.length - (i + 1)))) (c - (i + (ts.length - (i + 1))))]).run Tryz.prog W1 = .ok (.tuple #[]) W2 := by
    rw [hW2, show ts.length - (i + (ts.length - (i + 1))) = 1 by omega]
    exact run_clear_trk W1 0 g _ _ (fun j hj => hcell1 _ (by omega)) (fun j _ => hfro1 _)
  have hout : ∀ x, x < (ts.length - 1) * 9 → W2.cell? ⟨g, x, none⟩ = W1.cell? ⟨g, x, none⟩ := fun x hx => by
    rw [hW2]
    exact World.cell?_setCells_out g zeroTrk _ W1 _ (fun _ _ => .inl (by show x < _; omega))
  have hT : Trks W2 W2.heap.size (some ⟨g, 0, none⟩) (ts.eraseIdx i) := fun k t hk => by
    refine ⟨g, 0, rfl, ?_, fun j v hv => ?_⟩
    · have hg : g < w.heap.size := lt_of_block hblk
      have hb1 : w.heap.size ≤ W1.heap.size := by rw [hW1]; exact (below_setCells (B := 0) (Nat.zero_le _) news _ w.drew (Below.refl _ _).drew).size
      have hb2 : W1.heap.size ≤ W2.heap.size := by rw [hW2]; exact (below_setCells (B := 0) (Nat.zero_le _) zeroTrk _ W1 (Below.refl _ _)).size
      omega
    · have hj9 : j < 9 := by have := (List.getElem?_eq_some_iff.1 hv).1; simpa [trkCells] using this
      have hkl : k < ts.length - 1 := by
        have := (List.getElem?_eq_some_iff.1 hk).1
        rw [List.length_eraseIdx] at this
        rw [if_pos hi] at this
        exact this
      rw [show 0 + k * 9 + j = k * 9 + j by omega, hout _ (by omega), hW1]
      by_cases hki : k < i
      · rw [World.cell?_setCells_out g news _ w.drew _ (fun _ _ => .inl (by show k * 9 + j < _; omega))]
        rw [List.getElem?_eraseIdx, if_pos hki] at hk
        exact hcells _ v (by rw [flat_at ts k j t hj9 hk]; exact hv)
      · rw [List.getElem?_eraseIdx, if_neg hki] at hk
        have hjn : (k - i) * 9 + j < news.length := by rw [hnl]; omega
        have := World.cell?_setCells_in g news (0 + i * 9) w.drew (fun q hq => hcell _ (by rw [hnl] at hq; omega)) ((k - i) * 9 + j) hjn
        rw [show 0 + i * 9 + ((k - i) * 9 + j) = k * 9 + j by omega] at this
        rw [this, ← List.getElem?_eq_getElem hjn, hnews, flat_at (ts.drop (i + 1)) (k - i) j t hj9 (by rw [List.getElem?_drop, show i + 1 + (k - i) = k + 1 by omega]; exact hk)]
        exact hv
  have hBW : Below base w W2 := by
    rw [hW2, hW1]
    exact below_setCells hbg zeroTrk _ _ (below_setCells hbg news _ w.drew (Below.refl _ _).drew)
  have HT := Lib.hid hT
  have HBW := Lib.hid hBW
  have hW := Lib.hid hW1
  have hic : i ≤ c := by omega
  have hjc : i + 1 ≤ c := by omega
  have hi0' : (0 : Int) ≤ (i : Int) + 1 := by omega
  have hi1' : (i : Int) + 1 ≤ (ts.length : Int) := by omega
  have hc63 : c ≤ 9223372036854775807 := by simp only [maxLen] at hmax; omega
  clear hW1 hW2 hout hT hBW hm hcell1 hfro1 hcell hfro hcells hget hnews hnl htake hblk ho hmax hsz
  go_enter Tryz.func44, Tryz.ntmps44
  go_wp2_with fail
  go_region_law (refine step_append_room rfl (.tmp 22) (.tmp 25) 22 rfl 31 i0 9 Tryz.underlying22 hi0 hz1 g 0 i c (by simp [Act.eval, Act.put]) A (ts.length - (i + 1)) (c - (i + 1)) news (by simp [Act.eval, Act.put]) s1.out hsrc.out s2.out (by omega) s3.out ?_; rw [← hW.out])
  go_wp2_with fail
  go_ret
  exact ⟨by rw [show i + (ts.length - (i + 1)) = ts.length - 1 by omega]; rfl, HT.out, HBW.out⟩
end Go.Proofs.YtpbjpochjagicaaGreatDoorRR

namespace Go.Proofs.YtpbjpochjagicaaGreatDoorRR
open Go.RowKit

theorem Reads.first {w : World} {B size n : Nat} {A : Option Addr} {xs : List Value} (h : Reads w B size A n xs) {k : Nat} (hk : k ≤ n) : Reads w B size A k (xs.take (k * size)) := by
  refine ⟨by rw [List.length_take, h.1]; exact Nat.min_eq_left (Nat.mul_le_mul_right _ hk), fun h0 => ?_⟩
  obtain ⟨ad, h1, h2, h3⟩ := h.2 (by omega)
  refine ⟨ad, h1, h2, fun j u hu => ?_⟩
  rw [List.getElem?_take] at hu
  split at hu
  · exact h3 j u hu
  · cases hu
theorem flat_take (ts : List Pl.Trk) (k : Nat) : (ts.flatMap trkCells).take (k * 9) = (ts.take k).flatMap trkCells := by
  induction ts generalizing k with
  | nil => simp
  | cons t l ih =>
    cases k with
    | zero => simp
    | succ k =>
      rw [List.flatMap_cons, List.take_succ_cons, List.flatMap_cons, List.take_append, ← ih k]
      have e : (trkCells t).length = 9 := rfl
      rw [e, List.take_of_length_le (by rw [e]; omega), show (k + 1) * 9 - 9 = k * 9 by omega]
theorem flat_drop (ts : List Pl.Trk) (k : Nat) : (ts.flatMap trkCells).drop (k * 9) = (ts.drop k).flatMap trkCells := by
  induction ts generalizing k with
  | nil => simp
  | cons t l ih =>
    cases k with
    | zero => simp
    | succ k =>
      rw [List.flatMap_cons, List.drop_succ_cons, List.drop_append, ← ih k]
      have e : (trkCells t).length = 9 := rfl
      rw [e, List.drop_eq_nil_of_le (by rw [e]; omega), show (k + 1) * 9 - 9 = k * 9 by omega, List.nil_append]

theorem own_ge {w : World} {base e size n m : Nat} {A : Option Addr} {c : Nat} {xs : List Value} (h : w.ownsRow base e size (.slice A n c) m xs) : ∀ k, (Value.slice A n c).ownBlock = some k → base ≤ k := fun k hk => (h.lt k hk).1
/-- A net without a line, its lines in new memory. -/
def WithoutPost (n : Pl.Nt) (i : Nat) (sA : Option Addr) (sc : Nat) (w : World) (e : Ending) (w' : World) : Prop :=
  ∃ A c, e = .returned (.agg #[.int .i64 (Pl.without n i).stops, .slice A (Pl.without n i).tracks.length c, .slice sA (Pl.without n i).shops.length sc]) ∧ NReads w' w'.heap.size (Pl.without n i) A sA c sc ∧ Below w.heap.size w w'

end Go.Proofs.YtpbjpochjagicaaGreatDoorRR
