/- Walks: a net is copied: CopyNet (by gen_copynet.py). Walks: lists of numbers and cars are copied: CopyInts, CopyCoach. -/
import Derived.Test.YtpbjpochjagicaaGreatOt
import Derived.Test.YtpbjpochjagicaaGreatW7
import Derived.Test.YtpbjpochjagicaaGreatW10
import Derived.Test.YtpbjpochjagicaaGreatRl
import Derived.Test.YtpbjpochjagicaaGreatW31
namespace Go.Proofs.YtpbjpochjagicaaGreat
open Go.RowKit

theorem copyInts_any (A : Option Addr) (cp : Nat) (xs : List Int) (w : World) (hx : Ints w w.heap.size A xs) (hl : xs.length ≤ 1000) :
    Calls Tryz.prog 36 #[.slice A xs.length cp] w (IntsPost xs w) := by
  have H := Lib.hid hx
  clear hx
  go_enter Tryz.func36, Tryz.ntmps36
  have hnew : OwnInts (w.alloc (.cells #[] 3)) w.heap.size (some ⟨w.heap.size, 0, none⟩) 0 [] := World.ownsRow_lit w #[] 0 (Nat.le_refl _) (by decide) (by simp)
  have Hnew := Lib.hid hnew
  clear hnew
  go_wp2_with (at_builtin; refine wpl_app_ints rfl (.tmp 3) (.tmp 4) 23 rfl w.heap.size Tryz.underlying23 int_info (some ⟨w.heap.size, 0, none⟩) 0 [] rfl Hnew.out w.heap.size A cp xs rfl (H.out.alloc (Nat.le_refl _) _) (by simp; omega) (by simp) ?_; intro A2 c2 w2 hown2 hg2 hat2; have hb2 : Below w.heap.size w w2 := (((Below.refl w.heap.size w).alloc (Nat.le_refl _) _).grown hg2 (by simp) (fun k hk => by simp [Value.ownBlock] at hk; omega)); have Hown := Lib.hid hown2; have Hb := Lib.hid hb2; clear hown2 hg2 hat2 hb2)
  go_ret
  exact ⟨A2, c2, by simp, by simpa using Hown.out, Hb.out⟩

/-- A car's copy, in new memory. -/
def CopyPost (c : Pl.Cch) (w : World) (e : Ending) (w' : World) : Prop := ∃ (d_gA d_bA d_hA : Option Addr) (d_gc d_bc d_hc : Nat), e = .returned (.agg #[.slice d_gA c.gauges.length d_gc, .int .i64 c.size, .int .i64 c.load, .slice d_bA c.brakes.length d_bc, .slice d_hA c.heats.length d_hc, .bool c.hooks]) ∧
  CReads w' w'.heap.size c d_gA d_bA d_hA d_gc d_bc d_hc ∧ Below w.heap.size w w'

theorem own_nine {w3 : World} {base b r : Nat} {A : Option Addr} {k : Nat} {xs : List Int} (h : OwnInts w3 base A k xs) (hb : b < base) (hr : r < base) (v0 v1 v2 v3 v4 v5 v6 v7 v8 : Value) : OwnInts (((((((((w3.setCell ⟨b, 0, none⟩ v0).setCell ⟨b, 3, none⟩ v1).setCell ⟨b, 4, none⟩ v2).setCell ⟨r, 0, none⟩ v3).setCell ⟨r, 1, none⟩ v4).setCell ⟨r, 2, none⟩ v5).setCell ⟨r, 3, none⟩ v6).setCell ⟨r, 4, none⟩ v7).setCell ⟨r, 5, none⟩ v8) base A k xs := (ownsRow_setCell_below (ownsRow_setCell_below (ownsRow_setCell_below (ownsRow_setCell_below (ownsRow_setCell_below (ownsRow_setCell_below (ownsRow_setCell_below (ownsRow_setCell_below (ownsRow_setCell_below h hb v0) hb v1) hb v2) hr v3) hr v4) hr v5) hr v6) hr v7) hr v8)
theorem below_nine {w w3 : World} {B b r : Nat} (hB : Below B w w3) (hb : B ≤ b) (hr : B ≤ r) (v0 v1 v2 v3 v4 v5 v6 v7 v8 : Value) : Below B w (((((((((w3.setCell ⟨b, 0, none⟩ v0).setCell ⟨b, 3, none⟩ v1).setCell ⟨b, 4, none⟩ v2).setCell ⟨r, 0, none⟩ v3).setCell ⟨r, 1, none⟩ v4).setCell ⟨r, 2, none⟩ v5).setCell ⟨r, 3, none⟩ v6).setCell ⟨r, 4, none⟩ v7).setCell ⟨r, 5, none⟩ v8) := (((((((((hB.setCell hb v0).setCell hb v1).setCell hb v2).setCell hr v3).setCell hr v4).setCell hr v5).setCell hr v6).setCell hr v7).setCell hr v8)

/-- .. whose lists lie in rows of its own. -/
def CopyOwn (c : Pl.Cch) (w : World) (e : Ending) (w' : World) : Prop := ∃ (d_gA d_bA d_hA : Option Addr) (d_gc d_bc d_hc : Nat), e = .returned (.agg #[.slice d_gA c.gauges.length d_gc, .int .i64 c.size, .int .i64 c.load, .slice d_bA c.brakes.length d_bc, .slice d_hA c.heats.length d_hc, .bool c.hooks]) ∧
  OwnInts w' w.heap.size d_gA d_gc c.gauges ∧ OwnInts w' w.heap.size d_bA d_bc c.brakes ∧ OwnInts w' w.heap.size d_hA d_hc c.heats ∧ Below w.heap.size w w'

set_option maxRecDepth 20000 in
set_option maxHeartbeats 4000000 in
theorem copyCoach_own (c : Pl.Cch) (c_gA c_bA c_hA : Option Addr) (c_gc c_bc c_hc : Nat) (w : World) (hr : CReads w w.heap.size c c_gA c_bA c_hA c_gc c_bc c_hc) (lg : c.gauges.length ≤ 1000) (lb : c.brakes.length ≤ 1000) (lh : c.heats.length ≤ 1000) :
    Calls Tryz.prog 12 #[.agg #[.slice c_gA c.gauges.length c_gc, .int .i64 c.size, .int .i64 c.load, .slice c_bA c.brakes.length c_bc, .slice c_hA c.heats.length c_hc, .bool c.hooks]] w (CopyOwn c w) := by
  have Hr := Lib.hid hr
  clear hr
  obtain ⟨w0, hw0⟩ : ∃ w0, w0 = (w.alloc (.cells #[.slice c_gA c.gauges.length c_gc, .int .i64 c.size, .int .i64 c.load, .slice c_bA c.brakes.length c_bc, .slice c_hA c.heats.length c_hc, .bool c.hooks] 27)).alloc (.cells #[.slice none 0 0, .int .i64 0, .int .i64 0, .slice none 0 0, .slice none 0 0, .bool false] 27) := ⟨_, rfl⟩
  have hb0 : Below w.heap.size w w0 := by rw [hw0]; exact ((Below.refl _ _).alloc (Nat.le_refl _) _).alloc (by simp) _
  have hs0 : w0.heap.size = w.heap.size + 1 + 1 := by rw [hw0]; simp
  have hbx : w0.heap[w.heap.size]? = some (.cells #[.slice c_gA c.gauges.length c_gc, .int .i64 c.size, .int .i64 c.load, .slice c_bA c.brakes.length c_bc, .slice c_hA c.heats.length c_hc, .bool c.hooks] 27 (0, 0)) := by rw [hw0]; exact blk_alloc (heap_alloc_new w _) _
  have hrs : w0.heap[w.heap.size + 1]? = some (.cells #[.slice none 0 0, .int .i64 0, .int .i64 0, .slice none 0 0, .slice none 0 0, .bool false] 27 (0, 0)) := by
    rw [hw0]
    have := heap_alloc_new (w.alloc (.cells #[.slice c_gA c.gauges.length c_gc, .int .i64 c.size, .int .i64 c.load, .slice c_bA c.brakes.length c_bc, .slice c_hA c.heats.length c_hc, .bool c.hooks] 27)) (.cells #[.slice none 0 0, .int .i64 0, .int .i64 0, .slice none 0 0, .slice none 0 0, .bool false] 27)
    simpa using this
  go_enter Tryz.func12, Tryz.ntmps12
  go_wp2_with fail
  rw [← hw0]
  have HB0 := Lib.hid hb0
  have hk : ∀ W, Below w0.heap.size w0 W → (W.cell? ⟨w.heap.size, 0, none⟩ = some (.slice c_gA c.gauges.length c_gc) ∧ W.cell? ⟨w.heap.size, 3, none⟩ = some (.slice c_bA c.brakes.length c_bc) ∧ W.cell? ⟨w.heap.size, 4, none⟩ = some (.slice c_hA c.heats.length c_hc)) := fun W hW => by
    have h1 := blk_below hbx hW (by omega)
    exact ⟨blk_cell h1 0, blk_cell h1 3, blk_cell h1 4⟩
  have HK := Lib.hid hk
  have hr0 : ∀ W, Below w0.heap.size w0 W → CReads W W.heap.size c c_gA c_bA c_hA c_gc c_bc c_hc := fun W hW => by
    have h1 := hb0.trans (hW.mono hb0.size)
    exact (Hr.out.below h1).more h1.size
  have HR := Lib.hid hr0
  have hS := hk _ (Below.refl _ _).drew
  have Hbx := Lib.hid hbx
  have Hrs := Lib.hid hrs
  clear hk hr0 hb0 hbx hrs hw0
  obtain ⟨q0, q3, q4⟩ := hS
  have hS := And.intro q0 (And.intro q3 q4)
  clear q0 q3 q4
  refine wp_region_L (by kernel_rfl) (fun W => W.cell? ⟨w.heap.size, 0, none⟩ = some (.slice c_gA c.gauges.length c_gc) ∧ W.cell? ⟨w.heap.size, 3, none⟩ = some (.slice c_bA c.brakes.length c_bc) ∧ W.cell? ⟨w.heap.size, 4, none⟩ = some (.slice c_hA c.heats.length c_hc)) [10, 11, 12, 13, 14] ?_
  refine wpAnyL_take (i := 0) (v := ?v0) rfl (by kernel_rfl) (by kernel_rfl) (by kernel_rfl) (by kernel_rfl) (by rfl) (fun _ _ _ h => h) hS (Or.inl ⟨by rfl, ?hy0⟩) ?hr0
  case hy0 => (intro w hSw; (try dsimp only at hSw); go_simp; (try rfl))
  simp only [Act.put, List.setIfInBounds_toArray]
  refine wpAnyL_take (i := 1) (v := ?v1) rfl (by kernel_rfl) (by kernel_rfl) (by kernel_rfl) (by kernel_rfl) (by rfl) (fun _ _ _ h => h) hS (Or.inl ⟨by rfl, ?hy1⟩) ?hr1
  case hy1 => (intro w hSw; (try dsimp only at hSw); go_simp; (try rfl))
  simp only [Act.put]
  refine wpAnyL_take (i := 3) (v := ?v3) rfl (by kernel_rfl) (by kernel_rfl) (by kernel_rfl) (by kernel_rfl) (by rfl) (fun _ _ _ h => h) hS (Or.inl ⟨by rfl, ?hy3⟩) ?hr3
  case hy3 => (intro w hSw; (try dsimp only at hSw); go_simp; (try rfl))
  simp only [Act.put]
  refine wpAnyL_take (i := 4) (v := ?v4) rfl (by kernel_rfl) (by kernel_rfl) (by kernel_rfl) (by kernel_rfl) (by rfl) (fun _ _ _ h => h) hS (Or.inl ⟨by rfl, ?hy4⟩) ?hr4
  case hy4 => (intro w hSw; (try dsimp only at hSw); go_simp; (try rfl))
  simp only [Act.put]
  refine wpAnyL_take (i := 6) (v := ?v6) rfl (by kernel_rfl) (by kernel_rfl) (by kernel_rfl) (by kernel_rfl) (by rfl) (fun _ _ _ h => h) hS (Or.inl ⟨by rfl, ?hy6⟩) ?hr6
  case hy6 => (intro w hSw; (try dsimp only at hSw); go_simp; (try rfl))
  simp only [Act.put]
  refine wpAnyL_take (i := 7) (v := ?v7) rfl (by kernel_rfl) (by kernel_rfl) (by kernel_rfl) (by kernel_rfl) (by rfl) (fun _ _ _ h => h) hS (Or.inl ⟨by rfl, ?hy7⟩) ?hr7
  case hy7 => (intro w hSw; (try dsimp only at hSw); go_simp; (try rfl))
  simp only [Act.put]
  refine wpAnyL_one (i := 2) rfl (by kernel_rfl) ?_
  intro K hK
  go_simp
  refine (copyInts_any c_gA c_gc c.gauges _ (HR.out _ (Below.refl _ _).drew).gauges lg).mono ?_
  rintro e w1 ⟨A1, k1, rfl, o1, b1⟩
  have B1 := ((Below.refl w0.heap.size w0).drew).trans b1
  have O1 := Lib.hid o1
  have C1 := Lib.hid b1
  have hS := HK.out _ B1
  clear o1 b1
  refine hK.out _ _ hS (fun _ => ?_)
  clear hK K
  try simp only [Act.put, List.setIfInBounds_toArray, List.set_cons_zero, List.set_cons_succ]
  refine wpAnyL_take (i := 9) (v := ?v9) rfl (by kernel_rfl) (by kernel_rfl) (by kernel_rfl) (by kernel_rfl) (by rfl) (fun _ _ _ h => h) hS (Or.inl ⟨by rfl, ?hy9⟩) ?hr9
  case hy9 => (intro w hSw; (try dsimp only at hSw); go_simp; (try rfl))
  simp only [Act.put, List.setIfInBounds_toArray]
  refine wpAnyL_one (i := 5) rfl (by kernel_rfl) ?_
  intro K hK
  go_simp
  refine (copyInts_any c_bA c_bc c.brakes _ (HR.out _ B1).brakes lb).mono ?_
  rintro e w2 ⟨A2, k2, rfl, o2, b2⟩
  have B2 := B1.trans (b2.mono B1.size)
  have O2 := Lib.hid o2
  have C2 := Lib.hid b2
  have hS := HK.out _ B2
  clear o2 b2
  refine hK.out _ _ hS (fun _ => ?_)
  clear hK K
  try simp only [Act.put, List.setIfInBounds_toArray, List.set_cons_zero, List.set_cons_succ]
  refine wpAnyL_one (i := 8) rfl (by kernel_rfl) ?_
  intro K hK
  go_simp
  refine (copyInts_any c_hA c_hc c.heats _ (HR.out _ B2).heats lh).mono ?_
  rintro e w3 ⟨A3, k3, rfl, o3, b3⟩
  have B3 := B2.trans (b3.mono B2.size)
  have O3 := Lib.hid o3
  have C3 := Lib.hid b3
  have hS := HK.out _ B3
  clear o3 b3
  refine hK.out _ _ hS (fun _ => ?_)
  clear hK K
  try simp only [Act.put, List.setIfInBounds_toArray, List.set_cons_zero, List.set_cons_succ]
  have hx := blk_below Hbx.out B3 (by omega)
  have hy := blk_below Hrs.out B3 (by omega)
  have z0 := blk_cell hx 0
  have z1 := blk_cell hx 1
  have z2 := blk_cell hx 2
  have z3 := blk_cell hx 3
  have z4 := blk_cell hx 4
  have z5 := blk_cell hx 5
  have f0 := blk_frozen hx 0
  have f3 := blk_frozen hx 3
  have f4 := blk_frozen hx 4
  replace z0 : w3.cell? ⟨w.heap.size, 0, none⟩ = some (.slice c_gA c.gauges.length c_gc) := z0
  replace z1 : w3.cell? ⟨w.heap.size, 1, none⟩ = some (.int .i64 c.size) := z1
  replace z2 : w3.cell? ⟨w.heap.size, 2, none⟩ = some (.int .i64 c.load) := z2
  replace z3 : w3.cell? ⟨w.heap.size, 3, none⟩ = some (.slice c_bA c.brakes.length c_bc) := z3
  replace z4 : w3.cell? ⟨w.heap.size, 4, none⟩ = some (.slice c_hA c.heats.length c_hc) := z4
  replace z5 : w3.cell? ⟨w.heap.size, 5, none⟩ = some (.bool c.hooks) := z5
  have q0 : w3.cell? ⟨w.heap.size + 1, 0, none⟩ = some (.slice none 0 0) := blk_cell hy 0
  have q1 : w3.cell? ⟨w.heap.size + 1, 1, none⟩ = some (.int .i64 0) := blk_cell hy 1
  have q2 : w3.cell? ⟨w.heap.size + 1, 2, none⟩ = some (.int .i64 0) := blk_cell hy 2
  have q3 : w3.cell? ⟨w.heap.size + 1, 3, none⟩ = some (.slice none 0 0) := blk_cell hy 3
  have q4 : w3.cell? ⟨w.heap.size + 1, 4, none⟩ = some (.slice none 0 0) := blk_cell hy 4
  have q5 : w3.cell? ⟨w.heap.size + 1, 5, none⟩ = some (.bool false) := blk_cell hy 5
  have r0 := blk_frozen hy 0
  have r1 := blk_frozen hy 1
  have r2 := blk_frozen hy 2
  have r3 := blk_frozen hy 3
  have r4 := blk_frozen hy 4
  have r5 := blk_frozen hy 5
  clear hx hy hS
  refine wpAnyL_late (i := 10) rfl (by kernel_rfl) (by rfl) ?_
  intro K hK
  go_simp
  refine hK.out _ _ ?_
  clear hK K
  try simp only [Act.put, List.setIfInBounds_toArray, List.set_cons_zero, List.set_cons_succ]
  refine wpAnyL_late (i := 11) rfl (by kernel_rfl) (by rfl) ?_
  intro K hK
  go_simp
  refine hK.out _ _ ?_
  clear hK K
  try simp only [Act.put, List.setIfInBounds_toArray, List.set_cons_zero, List.set_cons_succ]
  refine wpAnyL_late (i := 12) rfl (by kernel_rfl) (by rfl) ?_
  intro K hK
  go_simp
  refine hK.out _ _ ?_
  clear hK K
  try simp only [Act.put, List.setIfInBounds_toArray, List.set_cons_zero, List.set_cons_succ]
  refine wpAnyL_late (i := 13) rfl (by kernel_rfl) (by rfl) ?_
  intro K hK
  go_simp
  refine hK.out _ _ ?_
  clear hK K
  try simp only [Act.put, List.setIfInBounds_toArray, List.set_cons_zero, List.set_cons_succ]
  refine wpAnyL_late (i := 14) rfl (by kernel_rfl) (by rfl) ?_
  intro K hK
  go_simp
  refine hK.out _ _ ?_
  clear hK K
  try simp only [Act.put, List.setIfInBounds_toArray, List.set_cons_zero, List.set_cons_succ]
  refine wpAnyL_done (by kernel_rfl) ?_
  have hbl : w.heap.size < w0.heap.size := by omega
  have hrl : w.heap.size + 1 < w0.heap.size := by omega
  have OA := Lib.hid (own_below (own_below (own_less (b' := w0.heap.size) O1.out (Nat.le_refl _)) C2.out (Nat.le_refl _)) C3.out (Nat.le_refl _))
  have OB := Lib.hid (own_below (own_less (b' := w0.heap.size) O2.out B1.size) C3.out (Nat.le_refl _))
  have OC := Lib.hid (own_less (b' := w0.heap.size) O3.out B2.size)
  have HBW := Lib.hid (HB0.out.trans (B3.mono HB0.out.size))
  have HLR := Lib.hid (And.intro Hr.out.lenG (And.intro Hr.out.lenB Hr.out.lenH))
  clear O1 O2 O3 C1 C2 C3 B1 B2 B3 HR HK Hr Hbx Hrs HB0
  go_wp2_with fail
  refine bodyPost_ret (v := .agg #[.slice A1 c.gauges.length k1, .int .i64 c.size, .int .i64 c.load, .slice A2 c.brakes.length k2, .slice A3 c.heats.length k3, .bool c.hooks]) (by simp [results, Tryz.results12, go_sem, q0, q1, q2, q3, q4, q5]) rfl ?_
  have hwl : w.heap.size ≤ w0.heap.size := by omega
  exact ⟨A1, A2, A3, k1, k2, k3, rfl, own_less (b' := w.heap.size) (own_nine OA.out hbl hrl _ _ _ _ _ _ _ _ _) hwl, own_less (b' := w.heap.size) (own_nine OB.out hbl hrl _ _ _ _ _ _ _ _ _) hwl, own_less (b' := w.heap.size) (own_nine OC.out hbl hrl _ _ _ _ _ _ _ _ _) hwl, below_nine HBW.out (Nat.le_refl _) (Nat.le_succ _) _ _ _ _ _ _ _ _ _⟩
theorem copyCoach_any (c : Pl.Cch) (c_gA c_bA c_hA : Option Addr) (c_gc c_bc c_hc : Nat) (w : World) (hr : CReads w w.heap.size c c_gA c_bA c_hA c_gc c_bc c_hc) (lg : c.gauges.length ≤ 1000) (lb : c.brakes.length ≤ 1000) (lh : c.heats.length ≤ 1000) :
    Calls Tryz.prog 12 #[.agg #[.slice c_gA c.gauges.length c_gc, .int .i64 c.size, .int .i64 c.load, .slice c_bA c.brakes.length c_bc, .slice c_hA c.heats.length c_hc, .bool c.hooks]] w (CopyPost c w) :=
  (copyCoach_own c c_gA c_bA c_hA c_gc c_bc c_hc w hr lg lb lh).mono fun _ _ ⟨A1, A2, A3, k1, k2, k3, he, o1, o2, o3, hb⟩ => ⟨A1, A2, A3, k1, k2, k3, he, ⟨o1.ints, o2.ints, o3.ints, hr.lenG, hr.lenB, hr.lenH⟩, hb⟩
end Go.Proofs.YtpbjpochjagicaaGreat

namespace Go.Proofs.YtpbjpochjagicaaGreat
open Go.RowKit

/-- A net's copy, in new memory. -/
def NetCopy (n : Pl.Nt) (w : World) (e : Ending) (w' : World) : Prop := ∃ (tA sA : Option Addr) (tc sc : Nat), e = .returned (.agg #[.int .i64 n.stops, .slice tA n.tracks.length tc, .slice sA n.shops.length sc]) ∧
  OwnTrks w' w.heap.size tA tc n.tracks ∧ OwnInts w' w.heap.size sA sc n.shops ∧ Below w.heap.size w w'
theorem row_four {w3 : World} {base b r : Nat} {e size : Nat} {v : Value} {k : Nat} {xs : List Value} (h : w3.ownsRow base e size v k xs) (hb : b < base) (hr : r < base) (v0 v1 v2 v3 v4 : Value) : (((((w3.setCell ⟨b, 1, none⟩ v0).setCell ⟨b, 2, none⟩ v1).setCell ⟨r, 0, none⟩ v2).setCell ⟨r, 1, none⟩ v3).setCell ⟨r, 2, none⟩ v4).ownsRow base e size v k xs :=
  ownsRow_setCell_below (ownsRow_setCell_below (ownsRow_setCell_below (ownsRow_setCell_below (ownsRow_setCell_below h hb v0) hb v1) hr v2) hr v3) hr v4
theorem below_four {w w3 : World} {B b r : Nat} (hB : Below B w w3) (hb : B ≤ b) (hr : B ≤ r) (v0 v1 v2 v3 v4 : Value) : Below B w (((((w3.setCell ⟨b, 1, none⟩ v0).setCell ⟨b, 2, none⟩ v1).setCell ⟨r, 0, none⟩ v2).setCell ⟨r, 1, none⟩ v3).setCell ⟨r, 2, none⟩ v4) :=
  ((((hB.setCell hb v0).setCell hb v1).setCell hr v2).setCell hr v3).setCell hr v4
theorem row_lower {w : World} {base base2 e size n : Nat} {v : Value} {xs : List Value} (h : w.ownsRow base2 e size v n xs) (hb : base ≤ base2) : w.ownsRow base e size v n xs := by
  refine ⟨h.1, ?_⟩
  rcases h.2 with h2 | ⟨g, cap, cur, hv, hg, r⟩
  · exact .inl h2
  · exact .inr ⟨g, cap, cur, hv, Nat.le_trans hb hg, r⟩
theorem row_below {w w' : World} {base B e size n : Nat} {v : Value} {xs : List Value} (h : w.ownsRow base e size v n xs) (hb : Below B w w') (hB : w.heap.size ≤ B) : w'.ownsRow base e size v n xs := by
  refine ⟨h.1, ?_⟩
  rcases h.2 with h2 | ⟨g, cap, cur, hv, hg, hh, r⟩
  · exact .inl h2
  · exact .inr ⟨g, cap, cur, hv, hg, (hb.block g (Nat.lt_of_lt_of_le (lt_of_block hh) hB)).trans hh, r⟩

set_option maxRecDepth 20000 in
set_option maxHeartbeats 4000000 in
theorem copyNet_any (n : Pl.Nt) (n_tA n_sA : Option Addr) (n_tc n_sc : Nat) (w : World) (hn : NReads w w.heap.size n n_tA n_sA n_tc n_sc) (lt : n.tracks.length ≤ 1000) (ls : n.shops.length ≤ 1000) :
    Calls Tryz.prog 11 #[.agg #[.int .i64 n.stops, .slice n_tA n.tracks.length n_tc, .slice n_sA n.shops.length n_sc]] w (NetCopy n w) := by
  have Hn := Lib.hid hn
  clear hn
  obtain ⟨w0, hw0⟩ : ∃ w0, w0 = (w.alloc (.cells #[.int .i64 n.stops, .slice n_tA n.tracks.length n_tc, .slice n_sA n.shops.length n_sc] 25)).alloc (.cells #[.int .i64 0, .slice none 0 0, .slice none 0 0] 25) := ⟨_, rfl⟩
  have hb0 : Below w.heap.size w w0 := by rw [hw0]; exact ((Below.refl _ _).alloc (Nat.le_refl _) _).alloc (by simp) _
  have hs0 : w0.heap.size = w.heap.size + 1 + 1 := by rw [hw0]; simp
  have hbx : w0.heap[w.heap.size]? = some (.cells #[.int .i64 n.stops, .slice n_tA n.tracks.length n_tc, .slice n_sA n.shops.length n_sc] 25 (0, 0)) := by rw [hw0]; exact blk_alloc (heap_alloc_new w _) _
  have hrs : w0.heap[w.heap.size + 1]? = some (.cells #[.int .i64 0, .slice none 0 0, .slice none 0 0] 25 (0, 0)) := by
    rw [hw0]
    have := heap_alloc_new (w.alloc (.cells #[.int .i64 n.stops, .slice n_tA n.tracks.length n_tc, .slice n_sA n.shops.length n_sc] 25)) (.cells #[.int .i64 0, .slice none 0 0, .slice none 0 0] 25)
    simpa using this
  go_enter Tryz.func11, Tryz.ntmps11
  go_wp2_with fail
  rw [← hw0]
  have HB0 := Lib.hid hb0
  have hk : ∀ W, Below w0.heap.size w0 W → (W.cell? ⟨w.heap.size, 1, none⟩ = some (.slice n_tA n.tracks.length n_tc) ∧ W.cell? ⟨w.heap.size, 2, none⟩ = some (.slice n_sA n.shops.length n_sc)) := fun W hW => by
    have h1 := blk_below hbx hW (by omega)
    exact ⟨blk_cell h1 1, blk_cell h1 2⟩
  have HK := Lib.hid hk
  have hr0 : ∀ W, Below w0.heap.size w0 W → NReads W W.heap.size n n_tA n_sA n_tc n_sc := fun W hW => by
    have h1 := hb0.trans (hW.mono hb0.size)
    exact (Hn.out.below h1).more h1.size
  have HR := Lib.hid hr0
  have hS := hk _ (Below.refl _ _).drew
  have Hbx := Lib.hid hbx
  have Hrs := Lib.hid hrs
  have hnew : OwnTrks (w0.drew.alloc (.cells #[] 107)) w0.heap.size (some ⟨w0.heap.size, 0, none⟩) 0 [] := World.ownsRow_lit w0.drew #[] 0 (Nat.le_refl _) (by decide) (by simp)
  have HNEW := Lib.hid hnew
  have hbn : Below w0.heap.size w0 (w0.drew.alloc (.cells #[] 107)) := (Below.refl _ _).drew.alloc (Nat.le_refl _) _
  have HBN := Lib.hid hbn
  have hrd : Reads (w0.drew.alloc (.cells #[] 107)) (w0.drew.alloc (.cells #[] 107)).heap.size 9 n_tA n.tracks.length (n.tracks.flatMap trkCells) := (hr0 _ hbn).tracks.reads
  have HRD := Lib.hid hrd
  have e63 : 0 + n.tracks.length ≤ maxLen := by simp only [maxLen]; omega
  have e65 : (0 + n.tracks.length) * 72 ≤ 140737488355328 := by omega
  obtain ⟨i0, t1, t2, t3, t4⟩ := info_parts trk_info
  have HS0 := Lib.hid hs0
  clear hk hr0 hb0 hbx hrs hw0 hnew hbn hrd hs0
  refine wp_region_L (by kernel_rfl) (fun W => W.cell? ⟨w.heap.size, 1, none⟩ = some (.slice n_tA n.tracks.length n_tc) ∧ W.cell? ⟨w.heap.size, 2, none⟩ = some (.slice n_sA n.shops.length n_sc)) [8, 9, 10] ?_
  refine wpAnyL_take (i := 1) (v := ?v1) rfl (by kernel_rfl) (by kernel_rfl) (by kernel_rfl) (by kernel_rfl) (by rfl) (fun _ _ _ h => h) hS (Or.inl ⟨by rfl, ?hy1⟩) ?hr1
  case hy1 => (intro w hSw; (try dsimp only at hSw); go_simp; (try rfl))
  simp only [Act.put, List.setIfInBounds_toArray]
  refine wpAnyL_take (i := 2) (v := ?v2) rfl (by kernel_rfl) (by kernel_rfl) (by kernel_rfl) (by kernel_rfl) (by rfl) (fun _ _ _ h => h) hS (Or.inl ⟨by rfl, ?hy2⟩) ?hr2
  case hy2 => (intro w hSw; (try dsimp only at hSw); go_simp; (try rfl))
  simp only [Act.put]
  refine wpAnyL_take (i := 4) (v := ?v4) rfl (by kernel_rfl) (by kernel_rfl) (by kernel_rfl) (by kernel_rfl) (by rfl) (fun _ _ _ h => h) hS (Or.inl ⟨by rfl, ?hy4⟩) ?hr4
  case hy4 => (intro w hSw; (try dsimp only at hSw); go_simp; (try rfl))
  simp only [Act.put]
  refine wpAnyL_take (i := 5) (v := ?v5) rfl (by kernel_rfl) (by kernel_rfl) (by kernel_rfl) (by kernel_rfl) (by rfl) (fun _ _ _ h => h) hS (Or.inl ⟨by rfl, ?hy5⟩) ?hr5
  case hy5 => (intro w hSw; (try dsimp only at hSw); go_simp; (try rfl))
  simp only [Act.put]
  refine wpAnyL_one (i := 0) rfl (by kernel_rfl) ?_
  intro K hK
  go_simp
  have hS := HK.out _ HBN.out
  refine hK.out _ _ hS (fun _ => ?_)
  clear hK K
  try simp only [Act.put, List.setIfInBounds_toArray, List.set_cons_zero, List.set_cons_succ]
  refine wpAnyL_one (i := 3) rfl (by kernel_rfl) ?_
  intro K hK
  refine step_append_any _ (by rfl) (.tmp 3) (.tmp 5) 22 (by rfl) w0.heap.size 107 i0 _ 9 72 Tryz.underlying22 t1 t2 t3 t4 rfl (by decide) (.slice (some ⟨w0.heap.size, 0, none⟩) 0 0) 0 [] (by rfl) HNEW.out _ n_tA n.tracks.length n_tc (n.tracks.flatMap trkCells) (by rfl) HRD.out flat_one e63 e65 HBN.out.size ?_
  intro v1 w1 hown1 hg1 _
  obtain ⟨A1, c1, hv1⟩ := own_slice hown1
  subst hv1
  have hb1 : Below w0.heap.size w0 w1 := HBN.out.trans ((Below.refl _ _).grown hg1 HBN.out.size (fun k hk => by simp [Value.ownBlock] at hk; omega))
  have HB1 := Lib.hid hb1
  have HO1 := Lib.hid hown1
  have hS := HK.out _ hb1
  clear hown1 hg1 hb1
  refine hK.out _ _ hS (fun _ => ?_)
  clear hK K
  try simp only [Act.put, List.setIfInBounds_toArray]
  refine wpAnyL_take (i := 7) (v := ?v7) rfl (by kernel_rfl) (by kernel_rfl) (by kernel_rfl) (by kernel_rfl) (by rfl) (fun _ _ _ h => h) hS (Or.inl ⟨by rfl, ?hy7⟩) ?hr7
  case hy7 => (intro w hSw; (try dsimp only at hSw); go_simp; (try rfl))
  simp only [Act.put]
  refine wpAnyL_one (i := 6) rfl (by kernel_rfl) ?_
  intro K hK
  go_simp
  refine (copyInts_any n_sA n_sc n.shops _ (HR.out _ HB1.out).shops ls).mono ?_
  rintro e w3 ⟨A3, k3, rfl, o3, b3⟩
  have B3 := HB1.out.trans (b3.mono HB1.out.size)
  have O3 := Lib.hid o3
  have C3 := Lib.hid b3
  have hS := HK.out _ B3
  clear o3 b3
  refine hK.out _ _ hS (fun _ => ?_)
  clear hK K
  try simp only [Act.put, List.setIfInBounds_toArray, List.set_cons_zero, List.set_cons_succ]
  have hs0 := HS0.out
  have hx := blk_below Hbx.out B3 (by omega)
  have hy := blk_below Hrs.out B3 (by omega)
  have z0 : w3.cell? ⟨w.heap.size, 0, none⟩ = some (.int .i64 n.stops) := blk_cell hx 0
  have z1 : w3.cell? ⟨w.heap.size, 1, none⟩ = some (.slice n_tA n.tracks.length n_tc) := blk_cell hx 1
  have z2 : w3.cell? ⟨w.heap.size, 2, none⟩ = some (.slice n_sA n.shops.length n_sc) := blk_cell hx 2
  have f1 := blk_frozen hx 1
  have f2 := blk_frozen hx 2
  have q0 : w3.cell? ⟨w.heap.size + 1, 0, none⟩ = some (.int .i64 0) := blk_cell hy 0
  have q1 : w3.cell? ⟨w.heap.size + 1, 1, none⟩ = some (.slice none 0 0) := blk_cell hy 1
  have q2 : w3.cell? ⟨w.heap.size + 1, 2, none⟩ = some (.slice none 0 0) := blk_cell hy 2
  have r0 := blk_frozen hy 0
  have r1 := blk_frozen hy 1
  have r2 := blk_frozen hy 2
  clear hx hy hS hs0
  refine wpAnyL_late (i := 8) rfl (by kernel_rfl) (by rfl) ?_
  intro K hK
  go_simp
  refine hK.out _ _ ?_
  clear hK K
  try simp only [Act.put, List.setIfInBounds_toArray, List.set_cons_zero, List.set_cons_succ]
  refine wpAnyL_late (i := 9) rfl (by kernel_rfl) (by rfl) ?_
  intro K hK
  go_simp
  refine hK.out _ _ ?_
  clear hK K
  try simp only [Act.put, List.setIfInBounds_toArray, List.set_cons_zero, List.set_cons_succ]
  refine wpAnyL_late (i := 10) rfl (by kernel_rfl) (by rfl) ?_
  intro K hK
  go_simp
  refine hK.out _ _ ?_
  clear hK K
  try simp only [Act.put, List.setIfInBounds_toArray, List.set_cons_zero, List.set_cons_succ]
  refine wpAnyL_done (by kernel_rfl) ?_
  have hs0 := HS0.out
  have hbl : w.heap.size < w0.heap.size := by omega
  have hrl : w.heap.size + 1 < w0.heap.size := by omega
  have OT : Hid (OwnTrks w3 w0.heap.size A1 c1 n.tracks) := by
    have h := row_below HO1.out C3.out (Nat.le_refl _)
    show OwnTrks _ _ _ _ _
    unfold OwnTrks
    simpa using h
  have OS := Lib.hid (row_lower (base := w0.heap.size) O3.out.out HB1.out.size)
  have HBW := Lib.hid (HB0.out.trans (B3.mono HB0.out.size))
  have e0 := HB0.out.size
  have hlz : Hid (0 + n.tracks.length = n.tracks.length) := Nat.zero_add _
  clear O3 C3 B3 HR HK Hn Hbx Hrs HB1 HBN HNEW HRD HO1 hs0
  go_wp2_with fail
  refine bodyPost_ret (v := .agg #[.int .i64 n.stops, .slice A1 n.tracks.length c1, .slice A3 n.shops.length k3]) (by simp [results, Tryz.results11, go_sem, q0, q1, q2]) rfl ?_
  exact ⟨A1, A3, c1, k3, rfl, row_lower (row_four OT.out hbl hrl _ _ _ _ _) (by omega), row_lower (row_four OS.out hbl hrl _ _ _ _ _) (by omega), below_four HBW.out (Nat.le_refl _) (Nat.le_succ _) _ _ _ _ _⟩
end Go.Proofs.YtpbjpochjagicaaGreat
