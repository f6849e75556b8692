/- Walks: all stations to which a car comes: Reach. -/
import Derived.Test.YtpbjpochjagicaaGreatDoorRRSh
import Derived.RegionTactic
namespace Go.Proofs.YtpbjpochjagicaaGreatDoorRR
open Go.RowKit

/-- What Reach hands back: the stations to which the car comes, rising. -/
def StopsPost (n : Pl.Nt) (c : Pl.Cch) (fr g : Int) (w : World) (e : Ending) (w' : World) : Prop :=
  ∃ A cp ys, e = .returned (.tuple #[.slice A ys.length cp, .int .i64 0]) ∧ ys.Pairwise (· < ·) ∧ (∀ x, x ∈ ys ↔ Pl.comes n c [] (fr, g) x = true) ∧ ys.length ≤ 24 ∧ Ints w' w'.heap.size A ys ∧ Below w.heap.size w w'

theorem pair_eq {R : List Pl.Place} {x y : Pl.Place × Nat} (hx : x ∈ R.zipIdx) (hy : y ∈ R.zipIdx) (h : x.2 = y.2) : x = y := by
  obtain ⟨x1, x2⟩ := x
  obtain ⟨y1, y2⟩ := y
  simp only at h
  subst h
  rw [List.mem_iff_getElem?] at hx hy
  obtain ⟨i, hi⟩ := hx
  obtain ⟨j, hj⟩ := hy
  rw [List.getElem?_zipIdx] at hi hj
  cases hri : R[i]? with
  | none => rw [hri] at hi; simp at hi
  | some a =>
    cases hrj : R[j]? with
    | none => rw [hrj] at hj; simp at hj
    | some b =>
      rw [hri] at hi; rw [hrj] at hj
      simp at hi hj
      have hij : i = j := by omega
      subst hij
      rw [hri] at hrj
      simp at hrj
      simp [← hi.1, ← hj.1, hrj]
/-- The stations that were handed out. -/
def Told (R : List Pl.Place) (seen : Array Nat) (l : List Int) : Prop := l.Nodup ∧ (∀ x, x ∈ l ↔ ∃ e ∈ R.zipIdx, e.2 ∈ seen ∧ e.1.1 = x) ∧ l.length + leftOf R.zipIdx seen ≤ R.length
theorem Told.start (R : List Pl.Place) : Told R #[] [] := by
  refine ⟨by simp, fun x => by simp, ?_⟩
  have h : (R.zipIdx.filter fun e => !(#[] : Array Nat).contains e.2).length ≤ R.zipIdx.length := List.length_filter_le _ _
  simp [leftOf] at h ⊢
  exact h
theorem Told.old {R : List Pl.Place} {seen : Array Nat} {l : List Int} {e : Pl.Place × Nat} (h : Told R seen l) (he : e ∈ R.zipIdx) (hn : e.2 ∉ seen) (hx : e.1.1 ∈ l) : Told R (seen.push e.2) l := by
  have hp := leftOf_push he hn
  refine ⟨h.1, fun x => ⟨fun hm => ?_, fun ⟨y, hy, hs, hq⟩ => ?_⟩, by have := h.2.2; omega⟩
  · obtain ⟨y, hy, hs, hq⟩ := (h.2.1 x).1 hm
    exact ⟨y, hy, Array.mem_push.2 (.inl hs), hq⟩
  · rcases Array.mem_push.1 hs with hs | hs
    · exact (h.2.1 x).2 ⟨y, hy, hs, hq⟩
    · rw [pair_eq hy he hs] at hq
      rw [← hq]; exact hx
theorem Told.new {R : List Pl.Place} {seen : Array Nat} {l : List Int} {e : Pl.Place × Nat} (h : Told R seen l) (he : e ∈ R.zipIdx) (hn : e.2 ∉ seen) (hx : e.1.1 ∉ l) : Told R (seen.push e.2) (l ++ [e.1.1]) := by
  have hp := leftOf_push he hn
  refine ⟨?_, fun x => ?_, by have := h.2.2; simp; omega⟩
  · rw [List.nodup_append]
    refine ⟨h.1, by simp, fun a ha b hb => ?_⟩
    simp at hb
    subst hb
    intro e2
    subst e2
    exact hx ha
  · rw [List.mem_append]
    constructor
    · rintro (hm | hm)
      · obtain ⟨y, hy, hs, hq⟩ := (h.2.1 x).1 hm
        exact ⟨y, hy, Array.mem_push.2 (.inl hs), hq⟩
      · simp at hm
        exact ⟨e, he, Array.mem_push.2 (.inr rfl), hm.symm⟩
    · rintro ⟨y, hy, hs, hq⟩
      rcases Array.mem_push.1 hs with hs | hs
      · exact .inl ((h.2.1 x).2 ⟨y, hy, hs, hq⟩)
      · rw [pair_eq hy he hs] at hq
        exact .inr (by simp [hq])
theorem Told.whole {R : List Pl.Place} {seen : Array Nat} {l : List Int} (h : Told R seen l) (hall : ∀ e ∈ R.zipIdx, e.2 ∈ seen) (x : Int) : x ∈ l ↔ ∃ q ∈ R, q.1 = x := by
  rw [h.2.1 x]
  constructor
  · rintro ⟨y, hy, _, hq⟩
    exact ⟨y.1, by have := List.fst_mem_of_mem_zipIdx hy; simpa using this, hq⟩
  · rintro ⟨q, hq, hqx⟩
    obtain ⟨i, hi, rfl⟩ := List.getElem_of_mem hq
    have hz : (R[i], i) ∈ R.zipIdx := by rw [List.mem_iff_getElem?]; exact ⟨i, by simp [hi]⟩
    exact ⟨_, hz, hall _ hz, hqx⟩
theorem sorted_of {l : List Int} (h : l.Nodup) : (l.mergeSort (fun x y => decide (x ≤ y))).Pairwise (· < ·) ∧ (∀ x, x ∈ l.mergeSort (fun x y => decide (x ≤ y)) ↔ x ∈ l) ∧ (l.mergeSort (fun x y => decide (x ≤ y))).length = l.length := by
  have hp := List.mergeSort_perm l (fun x y => decide (x ≤ y))
  have h1 := List.pairwise_mergeSort (le := fun x y : Int => decide (x ≤ y)) (by simp; omega) (by simp; omega) l
  have h2 : (l.mergeSort (fun x y => decide (x ≤ y))).Nodup := hp.nodup_iff.2 h
  refine ⟨?_, fun x => hp.mem_iff, hp.length_eq⟩
  refine (h1.and h2).imp fun {a b} hab => ?_
  have h3 := hab.1
  have h4 := hab.2
  simp at h3
  omega

theorem own_far {w w' : World} {base : Nat} {A : Option Addr} {c : Nat} {xs : List Int} (h : OwnInts w base A c xs) (hb : ∀ k, base ≤ k → w'.heap[k]? = w.heap[k]?) : OwnInts w' base A c xs := by
  refine ⟨h.1, ?_⟩
  rcases h.2 with h2 | ⟨g, cap, cur, hv, hg, hh, r⟩
  · exact .inl h2
  · exact .inr ⟨g, cap, cur, hv, hg, (hb g hg).trans hh, r⟩

set_option maxRecDepth 100000 in
set_option maxHeartbeats 4000000 in
theorem reach_ok (n : Pl.Nt) (n_tA n_sA : Option Addr) (n_tc n_sc : Nat) (c : Pl.Cch) (c_gA c_bA c_hA : Option Addr) (c_gc c_bc c_hc : Nat) (fr g : Int) (w : World) (hn : NReads w w.heap.size n n_tA n_sA n_tc n_sc) (hr : CReads w w.heap.size c c_gA c_bA c_hA c_gc c_bc c_hc) (hq : Pl.question n c fr g = 0)
    (U : List Pl.Place) (hU : ∀ x, Pl.Gets (Pl.run n c []) n.tracks.length (fr, g) x → x ∈ U) (hUl : U.length ≤ 24) :
    Calls Tryz.prog 12 #[.agg #[.int .i64 n.stops, .slice n_tA n.tracks.length n_tc, .slice n_sA n.shops.length n_sc], .agg #[.slice c_gA c.gauges.length c_gc, .int .i64 c.size, .int .i64 c.load, .slice c_bA c.brakes.length c_bc, .slice c_hA c.heats.length c_hc, .bool c.hooks], .int .i64 fr, .int .i64 g] w (StopsPost n c fr g w) := by
  have hb2 : ∀ (o1 o2 : Obj), Below w.heap.size w ((w.alloc o1).alloc o2) := fun o1 o2 => ((Below.refl _ _).alloc (Nat.le_refl _) _).alloc (by simp) _
  have Hn := Lib.hid (((hn.below (hb2 (.cells #[.int .i64 n.stops, .slice n_tA n.tracks.length n_tc, .slice n_sA n.shops.length n_sc] 25) (.cells #[.slice c_gA c.gauges.length c_gc, .int .i64 c.size, .int .i64 c.load, .slice c_bA c.brakes.length c_bc, .slice c_hA c.heats.length c_hc, .bool c.hooks] 28)))).more (B' := w.heap.size + 1 + 1) (by omega))
  have Hr := Lib.hid (((hr.below (hb2 (.cells #[.int .i64 n.stops, .slice n_tA n.tracks.length n_tc, .slice n_sA n.shops.length n_sc] 25) (.cells #[.slice c_gA c.gauges.length c_gc, .int .i64 c.size, .int .i64 c.load, .slice c_bA c.brakes.length c_bc, .slice c_hA c.heats.length c_hc, .bool c.hooks] 28)))).more (B' := w.heap.size + 1 + 1) (by omega))
  have HB2 := Lib.hid hb2; clear hb2 hn hr
  have HM0 : Hid (((w.alloc (.cells #[.int .i64 n.stops, .slice n_tA n.tracks.length n_tc, .slice n_sA n.shops.length n_sc] 25)).alloc (.cells #[.slice c_gA c.gauges.length c_gc, .int .i64 c.size, .int .i64 c.load, .slice c_bA c.brakes.length c_bc, .slice c_hA c.heats.length c_hc, .bool c.hooks] 28)).heap[w.heap.size]? = some (.cells #[.int .i64 n.stops, .slice n_tA n.tracks.length n_tc, .slice n_sA n.shops.length n_sc] 25 (0, 0))) := blk_alloc (heap_alloc_new w _) _
  have HM1 : Hid (((w.alloc (.cells #[.int .i64 n.stops, .slice n_tA n.tracks.length n_tc, .slice n_sA n.shops.length n_sc] 25)).alloc (.cells #[.slice c_gA c.gauges.length c_gc, .int .i64 c.size, .int .i64 c.load, .slice c_bA c.brakes.length c_bc, .slice c_hA c.heats.length c_hc, .bool c.hooks] 28)).heap[w.heap.size + 1]? = some (.cells #[.slice c_gA c.gauges.length c_gc, .int .i64 c.size, .int .i64 c.load, .slice c_bA c.brakes.length c_bc, .slice c_hA c.heats.length c_hc, .bool c.hooks] 28 (0, 0))) := by
    have := heap_alloc_new (w.alloc (.cells #[.int .i64 n.stops, .slice n_tA n.tracks.length n_tc, .slice n_sA n.shops.length n_sc] 25)) (.cells #[.slice c_gA c.gauges.length c_gc, .int .i64 c.size, .int .i64 c.load, .slice c_bA c.brakes.length c_bc, .slice c_hA c.heats.length c_hc, .bool c.hooks] 28)
    show _ = _
    simpa using this
  have HU := Lib.hid hU; clear hU
  have hdef : Hid (∀ ds, Pl.comes n c [] (fr, g) ds = (Pl.reached n c [] (fr, g)).any fun q => q.1 == ds) := fun _ => rfl
  obtain ⟨R, hR⟩ : ∃ R, R = Pl.reached n c [] (fr, g) := ⟨_, rfl⟩
  have hRl : R.length ≤ 24 := by
    have := Pl.bfs_all (Pl.run n c []) n.tracks.length (fr, g) U HU.out 100 (by omega)
    rw [hR]
    exact Nat.le_trans (Pl.length_le_of_nodup_subset _ U this.1 (fun x hx => HU.out x ((this.2 x).1 hx))) hUl
  have HRp : Hid ((fr, g) ∈ R) := by
    show _ ∈ _
    rw [hR]
    exact ((Pl.bfs_all (Pl.run n c []) n.tracks.length (fr, g) U HU.out 100 (by omega)).2 _).2 .refl
  have HR := Lib.hid hR; clear hR
  go_enter Tryz.func12, Tryz.ntmps12
  go_wp2_with fail
  refine (question_any n n_tA n_sA n_tc n_sc c c_gA c_bA c_hA c_gc c_bc c_hc fr g _ (by simpa using Hn.out) (by simpa using Hr.out)).mono ?_
  rintro e w1 ⟨rfl, hb⟩
  rw [hq]
  clear hq
  have m0 := Lib.hid (blk_below HM0.out hb (by simp; omega)); have m1 := Lib.hid (blk_below HM1.out hb (by simp))
  have x0 : w1.cell? ⟨w.heap.size + 1, 0, none⟩ = some (.slice c_gA c.gauges.length c_gc) := blk_cell m1.out 0
  have x1 : w1.cell? ⟨w.heap.size + 1, 1, none⟩ = some (.int .i64 c.size) := blk_cell m1.out 1
  have x2 : w1.cell? ⟨w.heap.size + 1, 2, none⟩ = some (.int .i64 c.load) := blk_cell m1.out 2
  have x3 : w1.cell? ⟨w.heap.size + 1, 3, none⟩ = some (.slice c_bA c.brakes.length c_bc) := blk_cell m1.out 3
  have x4 : w1.cell? ⟨w.heap.size + 1, 4, none⟩ = some (.slice c_hA c.heats.length c_hc) := blk_cell m1.out 4
  have x5 : w1.cell? ⟨w.heap.size + 1, 5, none⟩ = some (.bool c.hooks) := blk_cell m1.out 5
  have hsz := hb.size
  have HW := Lib.hid ((HB2.out (.cells #[.int .i64 n.stops, .slice n_tA n.tracks.length n_tc, .slice n_sA n.shops.length n_sc] 25) (.cells #[.slice c_gA c.gauges.length c_gc, .int .i64 c.size, .int .i64 c.load, .slice c_bA c.brakes.length c_bc, .slice c_hA c.heats.length c_hc, .bool c.hooks] 28)).trans (hb.mono (by simp; omega)))
  have Hcar := Lib.hid (car_made w1 c c_gA c_bA c_hA c_gc c_bc c_hc n n_tA n_sA n_tc n_sc m0.out)
  have hs1 : w.heap.size + 1 + 1 ≤ w1.heap.size := by simpa using hsz
  have HB3 := Lib.hid ((HW.out).alloc (by omega) (.cells (#[.slice c_gA c.gauges.length c_gc, .int .i64 c.size, .int .i64 c.load, .slice c_bA c.brakes.length c_bc, .slice c_hA c.heats.length c_hc, .bool c.hooks] ++ #[.pointer (some ⟨w.heap.size, 0, none⟩), .slice none 0 0]) 58))
  have Hn3 := Lib.hid ((Hn.out.below (by simpa using hb)).more hs1)
  have Hr3 := Lib.hid ((Hr.out.below (by simpa using hb)).more hs1)
  clear hb hsz
  go_wp2_with fail
  refine (reached_any w1.heap.size w.heap.size c c_gA c_bA c_hA c_gc c_bc c_hc n n_tA n_sA n_tc n_sc none [] 0 (fr, g) _ Hcar.out ((Hr3.out.alloc (Nat.le_refl _) _).more (by simp)) ((Hn3.out.alloc (Nat.le_refl _) _).more (by simp)) (Ints.nil _ _ _) (by simp) U HU.out hUl).mono ?_
  rintro e w2 ⟨rfl, hb2, hm2⟩
  rw [← HR.out] at hm2
  simp only [World.size_alloc] at hm2 hb2 ⊢
  have hrange := run_range hm2
  have hlt2 := hm2.lt
  have Hm2 := Lib.hid hm2; have HW2 := Lib.hid (HB3.out.trans (hb2.mono (by omega))); clear hm2 hb2
  go_wp2_with fail
  have hI0 : Hid (IterIs (w2.alloc (.mapIter (some (w1.heap.size + 1 + 1)) R.length #[] R.length)) w2.heap.size (w1.heap.size + 1 + 1) #[] R.length) := heap_alloc_new w2 _
  have hM0 : Hid (MapIs (w2.alloc (.mapIter (some (w1.heap.size + 1 + 1)) R.length #[] R.length)) (w1.heap.size + 1 + 1) R.zipIdx R.length) := Hm2.out.of_block (Below.heap_alloc _ _ _ hlt2)
  have hW0 : Hid (Below w.heap.size w (w2.alloc (.mapIter (some (w1.heap.size + 1 + 1)) R.length #[] R.length))) := HW2.out.alloc (by have := HW2.out.size; omega) _
  clear hrange
  have hIs : (w2.alloc (.mapIter (some (w1.heap.size + 1 + 1)) R.length #[] R.length)).heap.size = w2.heap.size + 1 := by simp
  have hws : w.heap.size ≤ w2.heap.size := HW2.out.size
  generalize w2.alloc (.mapIter (some (w1.heap.size + 1 + 1)) R.length #[] R.length) = W at hI0 hM0 hW0 hIs ⊢
  have HIs := Lib.hid hIs; clear hIs
  have hT0 := Lib.hid (Told.start R)
  go_loopw [12] (fun v wr => ∃ (seen : Array Nat) (A : Option Addr) (cp : Nat) (l : List Int), v = .slice A l.length cp ∧ Hid (IterIs wr w2.heap.size (w1.heap.size + 1 + 1) seen R.length) ∧ Hid (MapIs wr (w1.heap.size + 1 + 1) R.zipIdx R.length) ∧ Hid (Below w.heap.size w wr) ∧ Hid (OwnInts wr (w2.heap.size + 1) A cp l) ∧ Hid (Told R seen l))
    (fun _ wr => leftOf R.zipIdx (seenOf wr w2.heap.size))
  case atStart => exact ⟨#[], none, 0, [], rfl, hI0, hM0, hW0, OwnInts.nil _ _, hT0⟩
  case round =>
    obtain ⟨seen, A, cp, l, rfl, hI, hM, hW, hO, hT⟩ := hrel
    clear hI0 hM0 hW0 hT0 HIs
    have hl24 : l.length ≤ 24 := by have := hT.out.2.2; omega
    rcases run_next' hM.out hI.out (zip_lt R) with ⟨hall, k, hnx⟩ | ⟨e, k, he, hns, hnx⟩
    · have hmem := Lib.hid (fun x => (hT.out.whole hall x))
      clear hall
      have hne : fr ∈ l := (hmem.out fr).2 ⟨(fr, g), HRp.out, rfl⟩
      have hlpos : 0 < l.length := List.length_pos_of_mem hne
      obtain ⟨g0, hA0⟩ : ∃ g0, A = some ⟨g0, 0, none⟩ := by
        rcases hO.out.2 with ⟨_, h0⟩ | ⟨g0, cap, cur, h1, _⟩
        · omega
        · injection h1 with h1; exact ⟨g0, h1⟩
      subst hA0
      have hOd : OwnInts (wr.drewN k) (w2.heap.size + 1) (some ⟨g0, 0, none⟩) cp l := hO.out
      obtain ⟨hH, hgs, hgb⟩ := holds_of hOd.out
      have hso := sorted_of hT.out.1
      obtain ⟨hs3, hs4, hs5⟩ := hso
      have hSort := Tryz.slices_Sort_int g0 0 cp l (wr.drewN k) hH hgs (by omega)
      have HS3 := Lib.hid hs3
      have HS4 := Lib.hid hs4
      have HH := Lib.hid hH
      have HWd : Hid (Below w.heap.size w (wr.drewN k)) := below_drewN hW.out _
      clear hs3 hs4 hne hH hOd
      generalize l.mergeSort (fun x y => decide (x ≤ y)) = ys at hSort HS3 HS4 hs5
      go_wp2_with fail
      refine hSort.mono ?_
      rintro e w3 ⟨rfl, k2, os, rfl⟩
      obtain ⟨h1, h2, h3⟩ := after_sort (n := k2) (os := os) HH.out hgs (ys := ys) hs5 (B := w.heap.size) (by omega)
      have H1 := Lib.hid h1; have H2 := Lib.hid (HWd.out.trans h2); clear h1 h2 hSort
      rw [← h3] at H1
      clear h3
      go_wp2_with fail
      go_ret2
      refine ⟨some ⟨g0, 0, none⟩, cp, ys, by rw [hs5]; rfl, HS3.out, fun x => ?_, by omega, H1.out, H2.out⟩
      rw [HS4.out x, hmem.out x, hdef.out x, ← HR.out, List.any_eq_true]
      simp
    · have hsz : w2.heap.size < wr.heap.size := lt_of_block hI.out
      have hI2 : Hid (IterIs (setIter (wr.drewN k) w2.heap.size (w1.heap.size + 1 + 1) (seen.push e.2) R.length) w2.heap.size (w1.heap.size + 1 + 1) (seen.push e.2) R.length) := setIter_is hsz _ _ _
      have hM2 : Hid (MapIs (setIter (wr.drewN k) w2.heap.size (w1.heap.size + 1 + 1) (seen.push e.2) R.length) (w1.heap.size + 1 + 1) R.zipIdx R.length) := hM.out.of_block (setIter_far _ _ _ (by omega))
      have hW2 : Hid (Below w.heap.size w (setIter (wr.drewN k) w2.heap.size (w1.heap.size + 1 + 1) (seen.push e.2) R.length)) := setIter_below (below_drewN hW.out _) (by omega) _ _ _
      have hO2 : Hid (OwnInts (setIter (wr.drewN k) w2.heap.size (w1.heap.size + 1 + 1) (seen.push e.2) R.length) (w2.heap.size + 1) A cp l) := own_far hO.out (fun j hj => setIter_far _ _ _ (by omega))
      have hen := run_entry hM2.out hI2.out he (zip_nodup R)
      have hmeas : Hid (leftOf R.zipIdx (seen.push e.2) < leftOf R.zipIdx (seenOf wr w2.heap.size)) := by show _ < _; rw [seenOf_is hI.out]; exact leftOf_push he hns
      have hlt3 : Hid ((setIter (wr.drewN k) w2.heap.size (w1.heap.size + 1 + 1) (seen.push e.2) R.length).heap.size = wr.heap.size) := size_setIter _ _ _ _ _
      have hTo : Hid (e.1.1 ∈ l → Told R (seen.push e.2) l) := fun hx => hT.out.old he hns hx
      have hTn : Hid (e.1.1 ∉ l → Told R (seen.push e.2) (l ++ [e.1.1])) := fun hx => hT.out.new he hns hx
      obtain ⟨⟨es, eg⟩, eb⟩ := e
      simp only [pv] at hnx hen
      generalize setIter (wr.drewN k) w2.heap.size (w1.heap.size + 1 + 1) (seen.push (((es, eg), eb) : Pl.Place × Nat).2) R.length = W2 at hnx hen hI2 hM2 hW2 hlt3 hO2
      clear he
      go_wp2_with fail
      have hOa := own_alloc hO2.out (.cells #[.int .i64 es, .int .i64 eg] 64)
      have HOa := Lib.hid hOa
      have hw3 := hlt3.out
      refine (contains_any A cp l es _ _ hOa.ints (by omega)).mono ?_
      rintro e w3 ⟨rfl, rfl⟩
      have nb := heap_alloc_new W2 (.cells #[.int .i64 es, .int .i64 eg] 64)
      have nb0 : (W2.alloc (.cells #[.int .i64 es, .int .i64 eg] 64)).cell? ⟨W2.heap.size, 0, none⟩ = some (.int .i64 es) := blk_cell nb 0
      have HI3 : Hid (IterIs (W2.alloc (.cells #[.int .i64 es, .int .i64 eg] 64)) w2.heap.size (w1.heap.size + 1 + 1) (seen.push eb) R.length) := (Below.heap_alloc _ _ _ (by omega)).trans hI2.out
      have HM3 : Hid (MapIs (W2.alloc (.cells #[.int .i64 es, .int .i64 eg] 64)) (w1.heap.size + 1 + 1) R.zipIdx R.length) := hM2.out.of_block (Below.heap_alloc _ _ _ (by omega))
      have HW3 : Hid (Below w.heap.size w (W2.alloc (.cells #[.int .i64 es, .int .i64 eg] 64))) := hW2.out.alloc (by omega) _
      have hs3 : (W2.alloc (.cells #[.int .i64 es, .int .i64 eg] 64)).heap.size = wr.heap.size + 1 := by simp; omega
      rw [hw3] at nb0
      clear hOa nb hnx hen
      by_cases hel : es ∈ l
      · have hT2 := Lib.hid (hTo.out hel)
        have hd : decide (es ∈ l) = true := by simpa using hel
        rw [hd]
        clear hel hd nb0
        go_wp2_with fail
        go_roundw
        case rel => exact ⟨seen.push eb, A, cp, l, rfl, HI3, HM3, HW3, HOa, hT2⟩
        case measure => rw [seenOf_is HI3.out]; exact hmeas.out
      · have hT2 := Lib.hid (hTn.out hel)
        have hd : decide (es ∈ l) = false := by simpa using hel
        rw [hd]
        clear hel hd
        generalize W2.alloc (.cells #[.int .i64 es, .int .i64 eg] 64) = W3 at HI3 HM3 HW3 HOa hs3 nb0 ⊢
        have HS3 := Lib.hid hs3
        have hle3 : w2.heap.size + 1 ≤ W3.heap.size := by omega
        have hle4 : wr.heap.size < W3.heap.size := by omega
        clear hs3
        go_wp2_with (at_builtin; refine wpl_app_ints rfl (.tmp 40) (.tmp 43) 23 rfl (w2.heap.size + 1) Tryz.underlying23 int_info A cp l rfl (own_alloc HOa.out _) (W3.heap.size + 1) (some ⟨W3.heap.size, 0, none⟩) 1 [es] rfl (ints_one _ _ _ (by simp) (by omega)) (by simp; omega) (by simp; omega) ?_; intro A2 c2 w4 hown4 hg4 hat4; have hfar : Below (w2.heap.size + 1) W3 w4 := (((Below.refl _ _).alloc (by omega) _).grown hg4 (by simp; omega) (own_from HOa.out)); have Hfar := Lib.hid hfar; have Hown4 := Lib.hid hown4; clear hfar hown4 hg4 hat4)
        have HI4 : IterIs w4 w2.heap.size (w1.heap.size + 1 + 1) (seen.push eb) R.length := (Hfar.out.block _ (by omega)).trans HI3.out
        go_roundw
        case rel => exact ⟨seen.push eb, A2, c2, l ++ [es], by simp, HI4, HM3.out.of_block (Hfar.out.block _ (by omega)), HW3.out.trans (Hfar.out.mono (by omega)), Hown4.out, hT2⟩
        case measure => rw [seenOf_is HI4]; exact hmeas.out
end Go.Proofs.YtpbjpochjagicaaGreatDoorRR
