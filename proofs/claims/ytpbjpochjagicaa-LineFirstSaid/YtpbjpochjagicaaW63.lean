/- Walks: a net is copied: CopyNet (by gen_copynet.py). -/
import Derived.Test.YtpbjpochjagicaaOt
import Derived.Test.YtpbjpochjagicaaW47
namespace Go.Proofs.Ytpbjpochjagicaa
open Go.RowKit

/-- A net's copy, in new memory. -/
def NetCopy (n : Pl.Nt) (w : World) (e : Ending) (w' : World) : Prop := ∃ (tA sA : Option Addr) (tc sc : Nat), e = .returned (.agg #[.int .i64 n.stops, .slice tA n.tracks.length tc, .slice sA n.shops.length sc]) ∧
  OwnTrks w' w.heap.size tA tc n.tracks ∧ OwnInts w' w.heap.size sA sc n.shops ∧ Below w.heap.size w w'
theorem row_four {w3 : World} {base b r : Nat} {e size : Nat} {v : Value} {k : Nat} {xs : List Value} (h : w3.ownsRow base e size v k xs) (hb : b < base) (hr : r < base) (v0 v1 v2 v3 v4 : Value) : (((((w3.setCell ⟨b, 1, none⟩ v0).setCell ⟨b, 2, none⟩ v1).setCell ⟨r, 0, none⟩ v2).setCell ⟨r, 1, none⟩ v3).setCell ⟨r, 2, none⟩ v4).ownsRow base e size v k xs :=
  ownsRow_setCell_below (ownsRow_setCell_below (ownsRow_setCell_below (ownsRow_setCell_below (ownsRow_setCell_below h hb v0) hb v1) hr v2) hr v3) hr v4
theorem below_four {w w3 : World} {B b r : Nat} (hB : Below B w w3) (hb : B ≤ b) (hr : B ≤ r) (v0 v1 v2 v3 v4 : Value) : Below B w (((((w3.setCell ⟨b, 1, none⟩ v0).setCell ⟨b, 2, none⟩ v1).setCell ⟨r, 0, none⟩ v2).setCell ⟨r, 1, none⟩ v3).setCell ⟨r, 2, none⟩ v4) :=
  ((((hB.setCell hb v0).setCell hb v1).setCell hr v2).setCell hr v3).setCell hr v4
theorem row_lower {w : World} {base base2 e size n : Nat} {v : Value} {xs : List Value} (h : w.ownsRow base2 e size v n xs) (hb : base ≤ base2) : w.ownsRow base e size v n xs := by
  refine ⟨h.1, ?_⟩
  rcases h.2 with h2 | ⟨g, cap, cur, hv, hg, r⟩
  · exact .inl h2
  · exact .inr ⟨g, cap, cur, hv, Nat.le_trans hb hg, r⟩
theorem row_below {w w' : World} {base B e size n : Nat} {v : Value} {xs : List Value} (h : w.ownsRow base e size v n xs) (hb : Below B w w') (hB : w.heap.size ≤ B) : w'.ownsRow base e size v n xs := by
  refine ⟨h.1, ?_⟩
  rcases h.2 with h2 | ⟨g, cap, cur, hv, hg, hh, r⟩
  · exact .inl h2
  · exact .inr ⟨g, cap, cur, hv, hg, (hb.block g (Nat.lt_of_lt_of_le (lt_of_block hh) hB)).trans hh, r⟩

set_option maxRecDepth 20000 in
set_option maxHeartbeats 4000000 in
theorem copyNet_any (n : Pl.Nt) (n_tA n_sA : Option Addr) (n_tc n_sc : Nat) (w : World) (hn : NReads w w.heap.size n n_tA n_sA n_tc n_sc) (lt : n.tracks.length ≤ 1000) (ls : n.shops.length ≤ 1000) :
    Calls Try.prog 27 #[.agg #[.int .i64 n.stops, .slice n_tA n.tracks.length n_tc, .slice n_sA n.shops.length n_sc]] w (NetCopy n w) := by
  have Hn := Lib.hid hn
  clear hn
  obtain ⟨w0, hw0⟩ : ∃ w0, w0 = (w.alloc (.cells #[.int .i64 n.stops, .slice n_tA n.tracks.length n_tc, .slice n_sA n.shops.length n_sc] 27)).alloc (.cells #[.int .i64 0, .slice none 0 0, .slice none 0 0] 27) := ⟨_, rfl⟩
  have hb0 : Below w.heap.size w w0 := by rw [hw0]; exact ((Below.refl _ _).alloc (Nat.le_refl _) _).alloc (by simp) _
  have hs0 : w0.heap.size = w.heap.size + 1 + 1 := by rw [hw0]; simp
  have hbx : w0.heap[w.heap.size]? = some (.cells #[.int .i64 n.stops, .slice n_tA n.tracks.length n_tc, .slice n_sA n.shops.length n_sc] 27 (0, 0)) := by rw [hw0]; exact blk_alloc (heap_alloc_new w _) _
  have hrs : w0.heap[w.heap.size + 1]? = some (.cells #[.int .i64 0, .slice none 0 0, .slice none 0 0] 27 (0, 0)) := by
    rw [hw0]
    have := heap_alloc_new (w.alloc (.cells #[.int .i64 n.stops, .slice n_tA n.tracks.length n_tc, .slice n_sA n.shops.length n_sc] 27)) (.cells #[.int .i64 0, .slice none 0 0, .slice none 0 0] 27)
    simpa using this
  go_enter Try.func27, Try.ntmps27
  go_wp2_with fail
  rw [← hw0]
  have HB0 := Lib.hid hb0
  have hk : ∀ W, Below w0.heap.size w0 W → (W.cell? ⟨w.heap.size, 1, none⟩ = some (.slice n_tA n.tracks.length n_tc) ∧ W.cell? ⟨w.heap.size, 2, none⟩ = some (.slice n_sA n.shops.length n_sc)) := fun W hW => by
    have h1 := blk_below hbx hW (by omega)
    exact ⟨blk_cell h1 1, blk_cell h1 2⟩
  have HK := Lib.hid hk
  have hr0 : ∀ W, Below w0.heap.size w0 W → NReads W W.heap.size n n_tA n_sA n_tc n_sc := fun W hW => by
    have h1 := hb0.trans (hW.mono hb0.size)
    exact (Hn.out.below h1).more h1.size
  have HR := Lib.hid hr0
  have hS := hk _ (Below.refl _ _).drew
  have Hbx := Lib.hid hbx
  have Hrs := Lib.hid hrs
  have hnew : OwnTrks (w0.drew.alloc (.cells #[] 47)) w0.heap.size (some ⟨w0.heap.size, 0, none⟩) 0 [] := World.ownsRow_lit w0.drew #[] 0 (Nat.le_refl _) (by decide) (by simp)
  have HNEW := Lib.hid hnew
  have hbn : Below w0.heap.size w0 (w0.drew.alloc (.cells #[] 47)) := (Below.refl _ _).drew.alloc (Nat.le_refl _) _
  have HBN := Lib.hid hbn
  have hrd : Reads (w0.drew.alloc (.cells #[] 47)) (w0.drew.alloc (.cells #[] 47)).heap.size 9 n_tA n.tracks.length (n.tracks.flatMap trkCells) := (hr0 _ hbn).tracks.reads
  have HRD := Lib.hid hrd
  have e63 : 0 + n.tracks.length ≤ maxLen := by simp only [maxLen]; omega
  have e65 : (0 + n.tracks.length) * 72 ≤ 140737488355328 := by omega
  obtain ⟨i0, t1, t2, t3, t4⟩ := info_parts trk_info
  have HS0 := Lib.hid hs0
  clear hk hr0 hb0 hbx hrs hw0 hnew hbn hrd hs0
  refine wp_region_L (by kernel_rfl) (fun W => W.cell? ⟨w.heap.size, 1, none⟩ = some (.slice n_tA n.tracks.length n_tc) ∧ W.cell? ⟨w.heap.size, 2, none⟩ = some (.slice n_sA n.shops.length n_sc)) [8, 9, 10] ?_
  refine wpAnyL_take (i := 1) (v := ?v1) rfl (by kernel_rfl) (by kernel_rfl) (by kernel_rfl) (by kernel_rfl) (by rfl) (fun _ _ _ h => h) hS (Or.inl ⟨by rfl, ?hy1⟩) ?hr1
  case hy1 => (intro w hSw; (try dsimp only at hSw); go_simp; (try rfl))
  simp only [Act.put, List.setIfInBounds_toArray]
  refine wpAnyL_take (i := 2) (v := ?v2) rfl (by kernel_rfl) (by kernel_rfl) (by kernel_rfl) (by kernel_rfl) (by rfl) (fun _ _ _ h => h) hS (Or.inl ⟨by rfl, ?hy2⟩) ?hr2
  case hy2 => (intro w hSw; (try dsimp only at hSw); go_simp; (try rfl))
  simp only [Act.put]
  refine wpAnyL_take (i := 4) (v := ?v4) rfl (by kernel_rfl) (by kernel_rfl) (by kernel_rfl) (by kernel_rfl) (by rfl) (fun _ _ _ h => h) hS (Or.inl ⟨by rfl, ?hy4⟩) ?hr4
  case hy4 => (intro w hSw; (try dsimp only at hSw); go_simp; (try rfl))
  simp only [Act.put]
  refine wpAnyL_take (i := 5) (v := ?v5) rfl (by kernel_rfl) (by kernel_rfl) (by kernel_rfl) (by kernel_rfl) (by rfl) (fun _ _ _ h => h) hS (Or.inl ⟨by rfl, ?hy5⟩) ?hr5
  case hy5 => (intro w hSw; (try dsimp only at hSw); go_simp; (try rfl))
  simp only [Act.put]
  refine wpAnyL_one (i := 0) rfl (by kernel_rfl) ?_
  intro K hK
  go_simp
  have hS := HK.out _ HBN.out
  refine hK.out _ _ hS (fun _ => ?_)
  clear hK K
  try simp only [Act.put, List.setIfInBounds_toArray, List.set_cons_zero, List.set_cons_succ]
  refine wpAnyL_one (i := 3) rfl (by kernel_rfl) ?_
  intro K hK
  refine step_append_any _ (by rfl) (.tmp 3) (.tmp 5) 25 (by rfl) w0.heap.size 47 i0 _ 9 72 Try.underlying25 t1 t2 t3 t4 rfl (by decide) (.slice (some ⟨w0.heap.size, 0, none⟩) 0 0) 0 [] (by rfl) HNEW.out _ n_tA n.tracks.length n_tc (n.tracks.flatMap trkCells) (by rfl) HRD.out flat_one e63 e65 HBN.out.size ?_
  intro v1 w1 hown1 hg1 _
  obtain ⟨A1, c1, hv1⟩ := own_slice hown1
  subst hv1
  have hb1 : Below w0.heap.size w0 w1 := HBN.out.trans ((Below.refl _ _).grown hg1 HBN.out.size (fun k hk => by simp [Value.ownBlock] at hk; omega))
  have HB1 := Lib.hid hb1
  have HO1 := Lib.hid hown1
  have hS := HK.out _ hb1
  clear hown1 hg1 hb1
  refine hK.out _ _ hS (fun _ => ?_)
  clear hK K
  try simp only [Act.put, List.setIfInBounds_toArray]
  refine wpAnyL_take (i := 7) (v := ?v7) rfl (by kernel_rfl) (by kernel_rfl) (by kernel_rfl) (by kernel_rfl) (by rfl) (fun _ _ _ h => h) hS (Or.inl ⟨by rfl, ?hy7⟩) ?hr7
  case hy7 => (intro w hSw; (try dsimp only at hSw); go_simp; (try rfl))
  simp only [Act.put]
  refine wpAnyL_one (i := 6) rfl (by kernel_rfl) ?_
  intro K hK
  go_simp
  refine (copyInts_any n_sA n_sc n.shops _ (HR.out _ HB1.out).shops ls).mono ?_
  rintro e w3 ⟨A3, k3, rfl, o3, b3⟩
  have B3 := HB1.out.trans (b3.mono HB1.out.size)
  have O3 := Lib.hid o3
  have C3 := Lib.hid b3
  have hS := HK.out _ B3
  clear o3 b3
  refine hK.out _ _ hS (fun _ => ?_)
  clear hK K
  try simp only [Act.put, List.setIfInBounds_toArray, List.set_cons_zero, List.set_cons_succ]
  have hs0 := HS0.out
  have hx := blk_below Hbx.out B3 (by omega)
  have hy := blk_below Hrs.out B3 (by omega)
  have z0 : w3.cell? ⟨w.heap.size, 0, none⟩ = some (.int .i64 n.stops) := blk_cell hx 0
  have z1 : w3.cell? ⟨w.heap.size, 1, none⟩ = some (.slice n_tA n.tracks.length n_tc) := blk_cell hx 1
  have z2 : w3.cell? ⟨w.heap.size, 2, none⟩ = some (.slice n_sA n.shops.length n_sc) := blk_cell hx 2
  have f1 := blk_frozen hx 1
  have f2 := blk_frozen hx 2
  have q0 : w3.cell? ⟨w.heap.size + 1, 0, none⟩ = some (.int .i64 0) := blk_cell hy 0
  have q1 : w3.cell? ⟨w.heap.size + 1, 1, none⟩ = some (.slice none 0 0) := blk_cell hy 1
  have q2 : w3.cell? ⟨w.heap.size + 1, 2, none⟩ = some (.slice none 0 0) := blk_cell hy 2
  have r0 := blk_frozen hy 0
  have r1 := blk_frozen hy 1
  have r2 := blk_frozen hy 2
  clear hx hy hS hs0
  refine wpAnyL_late (i := 8) rfl (by kernel_rfl) (by rfl) ?_
  intro K hK
  go_simp
  refine hK.out _ _ ?_
  clear hK K
  try simp only [Act.put, List.setIfInBounds_toArray, List.set_cons_zero, List.set_cons_succ]
  refine wpAnyL_late (i := 9) rfl (by kernel_rfl) (by rfl) ?_
  intro K hK
  go_simp
  refine hK.out _ _ ?_
  clear hK K
  try simp only [Act.put, List.setIfInBounds_toArray, List.set_cons_zero, List.set_cons_succ]
  refine wpAnyL_late (i := 10) rfl (by kernel_rfl) (by rfl) ?_
  intro K hK
  go_simp
  refine hK.out _ _ ?_
  clear hK K
  try simp only [Act.put, List.setIfInBounds_toArray, List.set_cons_zero, List.set_cons_succ]
  refine wpAnyL_done (by kernel_rfl) ?_
  have hs0 := HS0.out
  have hbl : w.heap.size < w0.heap.size := by omega
  have hrl : w.heap.size + 1 < w0.heap.size := by omega
  have OT : Hid (OwnTrks w3 w0.heap.size A1 c1 n.tracks) := by
    have h := row_below HO1.out C3.out (Nat.le_refl _)
    show OwnTrks _ _ _ _ _
    unfold OwnTrks
    simpa using h
  have OS := Lib.hid (row_lower (base := w0.heap.size) O3.out.out HB1.out.size)
  have HBW := Lib.hid (HB0.out.trans (B3.mono HB0.out.size))
  have e0 := HB0.out.size
  have hlz : Hid (0 + n.tracks.length = n.tracks.length) := Nat.zero_add _
  clear O3 C3 B3 HR HK Hn Hbx Hrs HB1 HBN HNEW HRD HO1 hs0
  go_wp2_with fail
  refine bodyPost_ret (v := .agg #[.int .i64 n.stops, .slice A1 n.tracks.length c1, .slice A3 n.shops.length k3]) (by simp [results, Try.results27, go_sem, q0, q1, q2]) rfl ?_
  exact ⟨A1, A3, c1, k3, rfl, row_lower (row_four OT.out hbl hrl _ _ _ _ _) (by omega), row_lower (row_four OS.out hbl hrl _ _ _ _ _) (by omega), below_four HBW.out (Nat.le_refl _) (Nat.le_succ _) _ _ _ _ _⟩
end Go.Proofs.Ytpbjpochjagicaa
