/- Walks: made, the questions' nets and cars (by gen_made.py). Walks: same (by gen_same.py). -/
import Derived.Test.YtpbjpochjagicaaGreatW79
import Derived.Test.YtpbjpochjagicaaGreatLb
import Derived.Test.YtpbjpochjagicaaGreatW34
import Derived.BigQuiet
namespace Go.Proofs.YtpbjpochjagicaaGreat
open Go.RowKit

theorem set_grown (w : World) (x i : Nat) (v : Value) : w.grownBy (w.setCell ⟨x, i, none⟩ v) (some x) := by
  refine ⟨rfl, rfl, rfl, by simp [World.setCell], fun k _ hk => ?_⟩
  have : x ≠ k := fun e => hk (by rw [e])
  simp [World.setCell, Array.getElem?_modify, this]
theorem Dealt.grown {g B P Q x : Nat} {w w' : World} {n : Pl.Nt} {n_tA n_sA : Option Addr} {n_tc n_sc : Nat} {c : Pl.Cch} {c_gA c_bA c_hA : Option Addr} {c_gc c_bc c_hc : Nat}
    (h : Dealt g B P Q w n n_tA n_sA n_tc n_sc c c_gA c_bA c_hA c_gc c_bc c_hc) (k : w.grownBy w' (some x)) (hB : x < B) (hg : x ≠ g) (hxP : x ≠ P) (hxQ : x ≠ Q) : Dealt g B P Q w' n n_tA n_sA n_tc n_sc c c_gA c_bA c_hA c_gc c_bc c_hc :=
  have hb : ∀ i, i < w.heap.size → i ≠ x → w'.heap[i]? = w.heap[i]? := fun i hi hne => k.block i hi (fun e => hne (by injection e))
  have hr : ∀ {size m : Nat} {e : TypeId} {v : Value} {xs : List Value}, w.ownsRow B e size v m xs → w'.ownsRow B e size v m xs := fun hr => by
    refine ⟨hr.1, ?_⟩
    rcases hr.2 with h2 | ⟨b, cap, cur, hv, hg2, hh, r⟩
    · exact .inl h2
    · exact .inr ⟨b, cap, cur, hv, hg2, (hb b (lt_of_block hh) (by omega)).trans hh, r⟩
  { h with
    tr := hr h.tr, sh := hr h.sh, ga := hr h.ga, br := hr h.br, he := hr h.he
    b4 := (hb P (lt_of_block h.b4) (Ne.symm hxP)).trans h.b4, b5 := (hb Q (lt_of_block h.b5) (Ne.symm hxQ)).trans h.b5
    bag := by
      obtain ⟨s, hs⟩ := h.bag
      exact ⟨s, (hb g h.bag.lt (Ne.symm hg)).trans hs⟩ }
theorem five_new (w : World) (o1 o2 o3 o4 o5 : Obj) : (((((w.alloc o1).alloc o2).alloc o3).alloc o4).alloc o5).heap[w.heap.size]? = some o1 ∧ (((((w.alloc o1).alloc o2).alloc o3).alloc o4).alloc o5).heap[w.heap.size + 1]? = some o2 ∧
    (((((w.alloc o1).alloc o2).alloc o3).alloc o4).alloc o5).heap[w.heap.size + 1 + 1]? = some o3 ∧ (((((w.alloc o1).alloc o2).alloc o3).alloc o4).alloc o5).heap[w.heap.size + 1 + 1 + 1]? = some o4 ∧ (((((w.alloc o1).alloc o2).alloc o3).alloc o4).alloc o5).heap[w.heap.size + 1 + 1 + 1 + 1]? = some o5 := by
  have h1 := heap_alloc_new w o1
  have h2 := heap_alloc_new (w.alloc o1) o2
  have h3 := heap_alloc_new ((w.alloc o1).alloc o2) o3
  have h4 := heap_alloc_new (((w.alloc o1).alloc o2).alloc o3) o4
  have h5 := heap_alloc_new ((((w.alloc o1).alloc o2).alloc o3).alloc o4) o5
  have hs : ∀ (w : World) (o : Obj), (w.alloc o).heap.size = w.heap.size + 1 := fun w o => by simp
  simp only [hs] at h2 h3 h4 h5
  exact ⟨blk_alloc (blk_alloc (blk_alloc (blk_alloc h1 _) _) _) _, blk_alloc (blk_alloc (blk_alloc h2 _) _) _, blk_alloc (blk_alloc h3 _) _, blk_alloc h4 _, h5⟩

/-- What the questions hold: five nets, five cars, three times five numbers; the dealt net and car in their boxes. -/
def MadePost (a : Pl.Nt) (a_tA a_sA : Option Addr) (a_tc a_sc : Nat) (z : Pl.Cch) (z_gA z_bA z_hA : Option Addr) (z_gc z_bc z_hc : Nat) (p1 p2 p3 : Int) (g : Nat) (w : World) (e : Ending) (w' : World) : Prop := ∃ (B base P Q : Nat) (n : Pl.Nt) (n_tA n_sA : Option Addr) (n_tc n_sc : Nat) (c : Pl.Cch) (c_gA c_bA c_hA : Option Addr) (c_gc c_bc c_hc : Nat) (fr ga ds : Int), e = .returned (.agg #[.slice (some ⟨B, 0, none⟩) 5 5, .slice (some ⟨B + 1, 0, none⟩) 5 5, .slice (some ⟨B + 1 + 1, 0, none⟩) 5 5, .slice (some ⟨B + 1 + 1 + 1, 0, none⟩) 5 5, .slice (some ⟨B + 1 + 1 + 1 + 1, 0, none⟩) 5 5]) ∧
  (w'.heap[B]? = some (.cells #[.int .i64 a.stops, .slice a_tA a.tracks.length a_tc, .slice a_sA a.shops.length a_sc, .int .i64 n.stops, .slice n_tA n.tracks.length n_tc, .slice n_sA n.shops.length n_sc, .int .i64 n.stops, .slice n_tA n.tracks.length n_tc, .slice n_sA n.shops.length n_sc, .int .i64 a.stops, .slice a_tA a.tracks.length a_tc, .slice a_sA a.shops.length a_sc, .int .i64 n.stops, .slice n_tA n.tracks.length n_tc, .slice n_sA n.shops.length n_sc] 25 (0, 0)) ∧ w'.heap[B + 1]? = some (.cells #[.slice z_gA z.gauges.length z_gc, .int .i64 z.size, .int .i64 z.load, .slice z_bA z.brakes.length z_bc, .slice z_hA z.heats.length z_hc, .bool z.hooks, .slice c_gA c.gauges.length c_gc, .int .i64 c.size, .int .i64 c.load, .slice c_bA c.brakes.length c_bc, .slice c_hA c.heats.length c_hc, .bool c.hooks, .slice z_gA z.gauges.length z_gc, .int .i64 z.size, .int .i64 z.load, .slice z_bA z.brakes.length z_bc, .slice z_hA z.heats.length z_hc, .bool z.hooks, .slice c_gA c.gauges.length c_gc, .int .i64 c.size, .int .i64 c.load, .slice c_bA c.brakes.length c_bc, .slice c_hA c.heats.length c_hc, .bool c.hooks, .slice c_gA c.gauges.length c_gc, .int .i64 c.size, .int .i64 c.load, .slice c_bA c.brakes.length c_bc, .slice c_hA c.heats.length c_hc, .bool c.hooks] 27 (0, 0)) ∧ w'.heap[B + 1 + 1]? = some (.cells #[.int .i64 p1, .int .i64 fr, .int .i64 fr, .int .i64 p1, .int .i64 p1] 3 (0, 0)) ∧ w'.heap[B + 1 + 1 + 1]? = some (.cells #[.int .i64 p2, .int .i64 ga, .int .i64 p2, .int .i64 ga, .int .i64 p2] 3 (0, 0)) ∧ w'.heap[B + 1 + 1 + 1 + 1]? = some (.cells #[.int .i64 p3, .int .i64 ds, .int .i64 ds, .int .i64 p3, .int .i64 p3] 3 (0, 0))) ∧
  Dealt g base P Q w' n n_tA n_sA n_tc n_sc c c_gA c_bA c_hA c_gc c_bc c_hc ∧ Kb g w w' ∧ w.heap.size ≤ base ∧ w.heap.size ≤ B ∧ (0 ≤ fr ∧ fr ≤ n.stops - 1 ∧ ga ∈ c.gauges ∧ 0 ≤ ds ∧ ds ≤ n.stops - 1)

set_option maxRecDepth 20000 in
set_option maxHeartbeats 8000000 in
theorem made_any (a : Pl.Nt) (a_tA a_sA : Option Addr) (a_tc a_sc : Nat) (z : Pl.Cch) (z_gA z_bA z_hA : Option Addr) (z_gc z_bc z_hc : Nat) (p1 p2 p3 : Int) (g : Nat) (w : World) (hbag : BagAt w g) :
    Calls Tryz.prog 9 #[.agg #[.int .i64 a.stops, .slice a_tA a.tracks.length a_tc, .slice a_sA a.shops.length a_sc], .agg #[.slice z_gA z.gauges.length z_gc, .int .i64 z.size, .int .i64 z.load, .slice z_bA z.brakes.length z_bc, .slice z_hA z.heats.length z_hc, .bool z.hooks], .int .i64 p1, .int .i64 p2, .int .i64 p3, .pointer (some ⟨g, 0, none⟩)] w (MadePost a a_tA a_sA a_tc a_sc z z_gA z_bA z_hA z_gc z_bc z_hc p1 p2 p3 g w) := by
  have hgl := hbag.lt
  have hK1 : Kb g w (((w.alloc (.cells #[.int .i64 a.stops, .slice a_tA a.tracks.length a_tc, .slice a_sA a.shops.length a_sc] 25)).alloc (.cells #[.slice z_gA z.gauges.length z_gc, .int .i64 z.size, .int .i64 z.load, .slice z_bA z.brakes.length z_bc, .slice z_hA z.heats.length z_hc, .bool z.hooks] 27)).alloc (.cells #[.slice none 0 0, .slice none 0 0, .slice none 0 0, .slice none 0 0, .slice none 0 0] 33)) := (((Kb.refl hbag).alloc _).alloc _).alloc _
  have hA1 : (((w.alloc (.cells #[.int .i64 a.stops, .slice a_tA a.tracks.length a_tc, .slice a_sA a.shops.length a_sc] 25)).alloc (.cells #[.slice z_gA z.gauges.length z_gc, .int .i64 z.size, .int .i64 z.load, .slice z_bA z.brakes.length z_bc, .slice z_hA z.heats.length z_hc, .bool z.hooks] 27)).alloc (.cells #[.slice none 0 0, .slice none 0 0, .slice none 0 0, .slice none 0 0, .slice none 0 0] 33)).heap[w.heap.size]? = some (.cells #[.int .i64 a.stops, .slice a_tA a.tracks.length a_tc, .slice a_sA a.shops.length a_sc] 25 (0, 0)) := blk_alloc (blk_alloc (heap_alloc_new w _) _) _
  have hA2 : (((w.alloc (.cells #[.int .i64 a.stops, .slice a_tA a.tracks.length a_tc, .slice a_sA a.shops.length a_sc] 25)).alloc (.cells #[.slice z_gA z.gauges.length z_gc, .int .i64 z.size, .int .i64 z.load, .slice z_bA z.brakes.length z_bc, .slice z_hA z.heats.length z_hc, .bool z.hooks] 27)).alloc (.cells #[.slice none 0 0, .slice none 0 0, .slice none 0 0, .slice none 0 0, .slice none 0 0] 33)).heap[w.heap.size + 1]? = some (.cells #[.slice z_gA z.gauges.length z_gc, .int .i64 z.size, .int .i64 z.load, .slice z_bA z.brakes.length z_bc, .slice z_hA z.heats.length z_hc, .bool z.hooks] 27 (0, 0)) := blk_alloc (by have := heap_alloc_new (w.alloc (.cells #[.int .i64 a.stops, .slice a_tA a.tracks.length a_tc, .slice a_sA a.shops.length a_sc] 25)) (.cells #[.slice z_gA z.gauges.length z_gc, .int .i64 z.size, .int .i64 z.load, .slice z_bA z.brakes.length z_bc, .slice z_hA z.heats.length z_hc, .bool z.hooks] 27); simpa using this) _
  have hA3 : (((w.alloc (.cells #[.int .i64 a.stops, .slice a_tA a.tracks.length a_tc, .slice a_sA a.shops.length a_sc] 25)).alloc (.cells #[.slice z_gA z.gauges.length z_gc, .int .i64 z.size, .int .i64 z.load, .slice z_bA z.brakes.length z_bc, .slice z_hA z.heats.length z_hc, .bool z.hooks] 27)).alloc (.cells #[.slice none 0 0, .slice none 0 0, .slice none 0 0, .slice none 0 0, .slice none 0 0] 33)).heap[w.heap.size + 2]? = some (.cells #[.slice none 0 0, .slice none 0 0, .slice none 0 0, .slice none 0 0, .slice none 0 0] 33 (0, 0)) := by
    have := heap_alloc_new ((w.alloc (.cells #[.int .i64 a.stops, .slice a_tA a.tracks.length a_tc, .slice a_sA a.shops.length a_sc] 25)).alloc (.cells #[.slice z_gA z.gauges.length z_gc, .int .i64 z.size, .int .i64 z.load, .slice z_bA z.brakes.length z_bc, .slice z_hA z.heats.length z_hc, .bool z.hooks] 27)) (.cells #[.slice none 0 0, .slice none 0 0, .slice none 0 0, .slice none 0 0, .slice none 0 0] 33)
    simpa using this
  go_enter Tryz.func9, Tryz.ntmps9
  go_wp2_with fail
  generalize (((w.alloc (.cells #[.int .i64 a.stops, .slice a_tA a.tracks.length a_tc, .slice a_sA a.shops.length a_sc] 25)).alloc (.cells #[.slice z_gA z.gauges.length z_gc, .int .i64 z.size, .int .i64 z.load, .slice z_bA z.brakes.length z_bc, .slice z_hA z.heats.length z_hc, .bool z.hooks] 27)).alloc (.cells #[.slice none 0 0, .slice none 0 0, .slice none 0 0, .slice none 0 0, .slice none 0 0] 33)) = w1 at hK1 hA1 hA2 hA3 ⊢
  have hg1 := hK1.bag.lt
  have hs1 := lt_of_block hA3
  refine (netOf_any g 5 7 w1 hK1.bag (by omega) (by omega) (by omega) (by omega)).mono ?_
  rintro e w2 ⟨n, n_tA, n_sA, n_tc, n_sc, rfl, htr, hsh, hn, k12⟩
  have Htr := Lib.hid htr
  have Hsh := Lib.hid hsh
  have Hn := Lib.hid hn
  have K1 := Lib.hid hK1
  have A1 := Lib.hid hA1
  have A2 := Lib.hid hA2
  have A3 := Lib.hid hA3
  have K12 := Lib.hid k12
  have b2 := k12.bag
  clear htr hsh hn k12 hK1 hA1 hA2 hA3
  go_wp2_with fail
  refine (coach_any g w2 b2).mono ?_
  rintro e w3 ⟨c, c_gA, c_bA, c_hA, c_gc, c_bc, c_hc, rfl, hga, hbr, hhe, hc, k23⟩
  have Hga := Lib.hid hga
  have Hbr := Lib.hid hbr
  have Hhe := Lib.hid hhe
  have Hc := Lib.hid hc
  have K23 := Lib.hid k23
  clear hga hbr hhe hc k23
  go_wp2_with fail
  have hNb := blk_alloc (heap_alloc_new w3 (.cells #[.int .i64 n.stops, .slice n_tA n.tracks.length n_tc, .slice n_sA n.shops.length n_sc] 25)) (.cells #[.slice c_gA c.gauges.length c_gc, .int .i64 c.size, .int .i64 c.load, .slice c_bA c.brakes.length c_bc, .slice c_hA c.heats.length c_hc, .bool c.hooks] 27)
  have hCb : ((w3.alloc (.cells #[.int .i64 n.stops, .slice n_tA n.tracks.length n_tc, .slice n_sA n.shops.length n_sc] 25)).alloc (.cells #[.slice c_gA c.gauges.length c_gc, .int .i64 c.size, .int .i64 c.load, .slice c_bA c.brakes.length c_bc, .slice c_hA c.heats.length c_hc, .bool c.hooks] 27)).heap[w3.heap.size + 1]? = some (.cells #[.slice c_gA c.gauges.length c_gc, .int .i64 c.size, .int .i64 c.load, .slice c_bA c.brakes.length c_bc, .slice c_hA c.heats.length c_hc, .bool c.hooks] 27 (0, 0)) := by
    have := heap_alloc_new (w3.alloc (.cells #[.int .i64 n.stops, .slice n_tA n.tracks.length n_tc, .slice n_sA n.shops.length n_sc] 25)) (.cells #[.slice c_gA c.gauges.length c_gc, .int .i64 c.size, .int .i64 c.load, .slice c_bA c.brakes.length c_bc, .slice c_hA c.heats.length c_hc, .bool c.hooks] 27)
    simpa using this
  have hb34 : Below w3.heap.size w3 ((w3.alloc (.cells #[.int .i64 n.stops, .slice n_tA n.tracks.length n_tc, .slice n_sA n.shops.length n_sc] 25)).alloc (.cells #[.slice c_gA c.gauges.length c_gc, .int .i64 c.size, .int .i64 c.load, .slice c_bA c.brakes.length c_bc, .slice c_hA c.heats.length c_hc, .bool c.hooks] 27)) := ((Below.refl _ _).alloc (Nat.le_refl _) _).alloc (by simp) _
  have hD := dealt_of n n_tA n_sA n_tc n_sc c c_gA c_bA c_hA c_gc c_bc c_hc hg1 Htr.out Hsh.out Hn.out (by omega) (by omega) K12.out Hga.out Hbr.out Hhe.out Hc.out K23.out hb34 hNb hCb (Nat.le_refl _) (by omega)
  have W4K : Hid (Kb g w1 ((w3.alloc (.cells #[.int .i64 n.stops, .slice n_tA n.tracks.length n_tc, .slice n_sA n.shops.length n_sc] 25)).alloc (.cells #[.slice c_gA c.gauges.length c_gc, .int .i64 c.size, .int .i64 c.load, .slice c_bA c.brakes.length c_bc, .slice c_hA c.heats.length c_hc, .bool c.hooks] 27))) := (((K12.out.trans K23.out).alloc _).alloc _)
  have hP3 : w1.heap.size ≤ w3.heap.size := (K12.out.trans K23.out).size
  clear Htr Hsh Hn K12 Hga Hbr Hhe Hc K23 hb34 hNb hCb b2
  generalize hQ : w3.heap.size + 1 = Q at hD ⊢
  generalize (w3.alloc (.cells #[.int .i64 n.stops, .slice n_tA n.tracks.length n_tc, .slice n_sA n.shops.length n_sc] 25)).alloc (.cells #[.slice c_gA c.gauges.length c_gc, .int .i64 c.size, .int .i64 c.load, .slice c_bA c.brakes.length c_bc, .slice c_hA c.heats.length c_hc, .bool c.hooks] 27) = w4 at hD W4K ⊢
  generalize w3.heap.size = P at hD hP3 hQ ⊢
  obtain ⟨gb, hgA, hgb⟩ := hD.gauges
  subst hgA
  have D0 := Lib.hid hD
  have hst1 := hD.st
  have hst6 := hD.st6
  have hng := hD.ng
  have hlg := hD.lg
  have hP := lt_of_block hD.b4
  have hQ := lt_of_block hD.b5
  have hS : w4.drew.cell? ⟨P, 0, none⟩ = some (.int .i64 n.stops) ∧ w4.drew.cell? ⟨Q, 0, none⟩ = some (.slice (some ⟨gb, 0, none⟩) c.gauges.length c_gc) := ⟨hD.drew.ncells.1, hD.drew.ccells.1⟩
  have HW := Lib.hid (IntWalk.i64_in (n.stops - 1) ⟨by omega, by omega⟩)
  clear hD
  go_region_held3 (fun w' => w'.cell? ⟨P, 0, none⟩ = some (.int .i64 n.stops) ∧ w'.cell? ⟨Q, 0, none⟩ = some (.slice (some ⟨gb, 0, none⟩) c.gauges.length c_gc))
    (first | go_keep | exact hS)
    (first
      | (go_at_call 34; rw [HW.out]; refine (up_any g _ _ D0.out.drew.bag (by omega)).mono ?_; rintro e w5 ⟨fr, rfl, hf0, hf1, hB5⟩; have D5 := Lib.hid (D0.out.drew.bagged hB5); have HB5 := Lib.hid hB5; clear hB5; have hS := And.intro D5.out.ncells.1 D5.out.ccells.1)
      | (go_at_call 35; refine (one_any g gb 0 _ c.gauges _ D5.out.bag D5.out.ga.ints hgb hng (by omega)).mono ?_; rintro e w6 ⟨ga, rfl, hgm, hB6⟩; have D6 := Lib.hid (D5.out.bagged hB6); have HB6 := Lib.hid hB6; clear hB6; have hS := And.intro D6.out.ncells.1 D6.out.ccells.1)
      | (go_at_call 34; refine (up_any g _ _ D6.out.bag (by omega)).mono ?_; rintro e w7 ⟨ds, rfl, hd0, hd1, hB7⟩; have D7 := Lib.hid (D6.out.bagged hB7); have HB7 := Lib.hid hB7; clear hB7; have hS := And.intro D7.out.ncells.1 D7.out.ccells.1))
  have HK7 := Lib.hid (W4K.out.trans (((((Kb.refl D0.out.bag).drew.bagged HB5.out).bagged HB6.out)).bagged HB7.out))
  clear W4K HB5 HB6 HB7 hS
  have hK := HK7.out
  have B1 := Lib.hid ((hK.block (k := w.heap.size) (by omega) (by omega)).trans A1.out)
  have B2 := Lib.hid ((hK.block (k := w.heap.size + 1) (by omega) (by omega)).trans A2.out)
  have B3 := Lib.hid ((hK.block (k := w.heap.size + 2) (by omega) (by omega)).trans A3.out)
  have hsz := hK.size
  clear hK
  have hP7 := lt_of_block D7.out.b4
  have hQ7 := lt_of_block D7.out.b5
  have n0 : w7.cell? ⟨w.heap.size, 0, none⟩ = some (.int .i64 a.stops) := blk_cell B1.out 0
  have n1 : w7.cell? ⟨w.heap.size, 1, none⟩ = some (.slice a_tA a.tracks.length a_tc) := blk_cell B1.out 1
  have n2 : w7.cell? ⟨w.heap.size, 2, none⟩ = some (.slice a_sA a.shops.length a_sc) := blk_cell B1.out 2
  have y0 : w7.cell? ⟨w.heap.size + 1, 0, none⟩ = some (.slice z_gA z.gauges.length z_gc) := blk_cell B2.out 0
  have y1 : w7.cell? ⟨w.heap.size + 1, 1, none⟩ = some (.int .i64 z.size) := blk_cell B2.out 1
  have y2 : w7.cell? ⟨w.heap.size + 1, 2, none⟩ = some (.int .i64 z.load) := blk_cell B2.out 2
  have y3 : w7.cell? ⟨w.heap.size + 1, 3, none⟩ = some (.slice z_bA z.brakes.length z_bc) := blk_cell B2.out 3
  have y4 : w7.cell? ⟨w.heap.size + 1, 4, none⟩ = some (.slice z_hA z.heats.length z_hc) := blk_cell B2.out 4
  have y5 : w7.cell? ⟨w.heap.size + 1, 5, none⟩ = some (.bool z.hooks) := blk_cell B2.out 5
  have e0 : w7.cell? ⟨w.heap.size + 1 + 1, 0, none⟩ = some (.slice none 0 0) := blk_cell B3.out 0
  have e1 : w7.cell? ⟨w.heap.size + 1 + 1, 1, none⟩ = some (.slice none 0 0) := blk_cell B3.out 1
  have e2 : w7.cell? ⟨w.heap.size + 1 + 1, 2, none⟩ = some (.slice none 0 0) := blk_cell B3.out 2
  have e3 : w7.cell? ⟨w.heap.size + 1 + 1, 3, none⟩ = some (.slice none 0 0) := blk_cell B3.out 3
  have e4 : w7.cell? ⟨w.heap.size + 1 + 1, 4, none⟩ = some (.slice none 0 0) := blk_cell B3.out 4
  have he0 : w.heap.size < w7.heap.size := by omega
  have hq1 : w.heap.size + 1 + 1 < w7.heap.size + 1 := by omega
  have hq2 : w.heap.size + 1 + 1 < w7.heap.size + 1 + 1 := by omega
  have hq3 : w.heap.size + 1 + 1 < w7.heap.size + 1 + 1 + 1 := by omega
  have hq4 : w.heap.size + 1 + 1 < w7.heap.size + 1 + 1 + 1 + 1 := by omega
  have hq5 : w.heap.size + 1 + 1 < w7.heap.size + 1 + 1 + 1 + 1 + 1 := by omega
  have he1 : w.heap.size + 1 < w7.heap.size := by omega
  have he : w.heap.size + 1 + 1 < w7.heap.size := by omega
  have hz0 : w7.frozen? ⟨w.heap.size + 1 + 1, 0, none⟩ = false := blk_frozen B3.out 0
  have hz1 : w7.frozen? ⟨w.heap.size + 1 + 1, 1, none⟩ = false := blk_frozen B3.out 1
  have hz2 : w7.frozen? ⟨w.heap.size + 1 + 1, 2, none⟩ = false := blk_frozen B3.out 2
  have hz3 : w7.frozen? ⟨w.heap.size + 1 + 1, 3, none⟩ = false := blk_frozen B3.out 3
  have hz4 : w7.frozen? ⟨w.heap.size + 1 + 1, 4, none⟩ = false := blk_frozen B3.out 4
  obtain ⟨z0, z1, z2⟩ := D7.out.ncells
  obtain ⟨x0, x1, x2, x3, x4, x5⟩ := D7.out.ccells
  go_wp2_with fail
  have hP3x : w.heap.size + 1 + 1 ≠ P := by omega
  have hQ3x : w.heap.size + 1 + 1 ≠ Q := by omega
  have hgx : w.heap.size + 1 + 1 ≠ g := by omega
  have hg8 : w7.grownBy (((((w7.setCell ⟨w.heap.size + 1 + 1, 0, none⟩ (.slice (some ⟨w7.heap.size, 0, none⟩) 5 5)).setCell ⟨w.heap.size + 1 + 1, 1, none⟩ (.slice (some ⟨w7.heap.size + 1, 0, none⟩) 5 5)).setCell ⟨w.heap.size + 1 + 1, 2, none⟩ (.slice (some ⟨w7.heap.size + 1 + 1, 0, none⟩) 5 5)).setCell ⟨w.heap.size + 1 + 1, 3, none⟩ (.slice (some ⟨w7.heap.size + 1 + 1 + 1, 0, none⟩) 5 5)).setCell ⟨w.heap.size + 1 + 1, 4, none⟩ (.slice (some ⟨w7.heap.size + 1 + 1 + 1 + 1, 0, none⟩) 5 5)) (some (w.heap.size + 1 + 1)) := ((((set_grown _ _ 0 _).trans (set_grown _ _ 1 _)).trans (set_grown _ _ 2 _)).trans (set_grown _ _ 3 _)).trans (set_grown _ _ 4 _)
  have D8 := Lib.hid (D7.out.grown hg8 (by omega) hgx hP3x hQ3x)
  have K8 := Lib.hid ((((((K1.out.trans HK7.out).setCell (p := ⟨w.heap.size + 1 + 1, 0, none⟩) (by show w.heap.size ≤ w.heap.size + 1 + 1; omega) hgl (.slice (some ⟨w7.heap.size, 0, none⟩) 5 5)).setCell (p := ⟨w.heap.size + 1 + 1, 1, none⟩) (by show w.heap.size ≤ w.heap.size + 1 + 1; omega) hgl (.slice (some ⟨w7.heap.size + 1, 0, none⟩) 5 5)).setCell (p := ⟨w.heap.size + 1 + 1, 2, none⟩) (by show w.heap.size ≤ w.heap.size + 1 + 1; omega) hgl (.slice (some ⟨w7.heap.size + 1 + 1, 0, none⟩) 5 5)).setCell (p := ⟨w.heap.size + 1 + 1, 3, none⟩) (by show w.heap.size ≤ w.heap.size + 1 + 1; omega) hgl (.slice (some ⟨w7.heap.size + 1 + 1 + 1, 0, none⟩) 5 5)).setCell (p := ⟨w.heap.size + 1 + 1, 4, none⟩) (by show w.heap.size ≤ w.heap.size + 1 + 1; omega) hgl (.slice (some ⟨w7.heap.size + 1 + 1 + 1 + 1, 0, none⟩) 5 5))
  have hs8 : (((((w7.setCell ⟨w.heap.size + 1 + 1, 0, none⟩ (.slice (some ⟨w7.heap.size, 0, none⟩) 5 5)).setCell ⟨w.heap.size + 1 + 1, 1, none⟩ (.slice (some ⟨w7.heap.size + 1, 0, none⟩) 5 5)).setCell ⟨w.heap.size + 1 + 1, 2, none⟩ (.slice (some ⟨w7.heap.size + 1 + 1, 0, none⟩) 5 5)).setCell ⟨w.heap.size + 1 + 1, 3, none⟩ (.slice (some ⟨w7.heap.size + 1 + 1 + 1, 0, none⟩) 5 5)).setCell ⟨w.heap.size + 1 + 1, 4, none⟩ (.slice (some ⟨w7.heap.size + 1 + 1 + 1 + 1, 0, none⟩) 5 5)).heap.size = w7.heap.size := by simp [World.setCell]
  have hF := five_new (((((w7.setCell ⟨w.heap.size + 1 + 1, 0, none⟩ (.slice (some ⟨w7.heap.size, 0, none⟩) 5 5)).setCell ⟨w.heap.size + 1 + 1, 1, none⟩ (.slice (some ⟨w7.heap.size + 1, 0, none⟩) 5 5)).setCell ⟨w.heap.size + 1 + 1, 2, none⟩ (.slice (some ⟨w7.heap.size + 1 + 1, 0, none⟩) 5 5)).setCell ⟨w.heap.size + 1 + 1, 3, none⟩ (.slice (some ⟨w7.heap.size + 1 + 1 + 1, 0, none⟩) 5 5)).setCell ⟨w.heap.size + 1 + 1, 4, none⟩ (.slice (some ⟨w7.heap.size + 1 + 1 + 1 + 1, 0, none⟩) 5 5)) (.cells #[.int .i64 a.stops, .slice a_tA a.tracks.length a_tc, .slice a_sA a.shops.length a_sc, .int .i64 n.stops, .slice n_tA n.tracks.length n_tc, .slice n_sA n.shops.length n_sc, .int .i64 n.stops, .slice n_tA n.tracks.length n_tc, .slice n_sA n.shops.length n_sc, .int .i64 a.stops, .slice a_tA a.tracks.length a_tc, .slice a_sA a.shops.length a_sc, .int .i64 n.stops, .slice n_tA n.tracks.length n_tc, .slice n_sA n.shops.length n_sc] 25) (.cells #[.slice z_gA z.gauges.length z_gc, .int .i64 z.size, .int .i64 z.load, .slice z_bA z.brakes.length z_bc, .slice z_hA z.heats.length z_hc, .bool z.hooks, .slice (some ⟨gb, 0, none⟩) c.gauges.length c_gc, .int .i64 c.size, .int .i64 c.load, .slice c_bA c.brakes.length c_bc, .slice c_hA c.heats.length c_hc, .bool c.hooks, .slice z_gA z.gauges.length z_gc, .int .i64 z.size, .int .i64 z.load, .slice z_bA z.brakes.length z_bc, .slice z_hA z.heats.length z_hc, .bool z.hooks, .slice (some ⟨gb, 0, none⟩) c.gauges.length c_gc, .int .i64 c.size, .int .i64 c.load, .slice c_bA c.brakes.length c_bc, .slice c_hA c.heats.length c_hc, .bool c.hooks, .slice (some ⟨gb, 0, none⟩) c.gauges.length c_gc, .int .i64 c.size, .int .i64 c.load, .slice c_bA c.brakes.length c_bc, .slice c_hA c.heats.length c_hc, .bool c.hooks] 27) (.cells #[.int .i64 p1, .int .i64 fr, .int .i64 fr, .int .i64 p1, .int .i64 p1] 3) (.cells #[.int .i64 p2, .int .i64 ga, .int .i64 p2, .int .i64 ga, .int .i64 p2] 3) (.cells #[.int .i64 p3, .int .i64 ds, .int .i64 ds, .int .i64 p3, .int .i64 p3] 3)
  rw [hs8] at hF
  have HF := Lib.hid hF
  clear hF hg8 hs8
  refine bodyPost_ret (v := .agg #[.slice (some ⟨w7.heap.size, 0, none⟩) 5 5, .slice (some ⟨w7.heap.size + 1, 0, none⟩) 5 5, .slice (some ⟨w7.heap.size + 1 + 1, 0, none⟩) 5 5, .slice (some ⟨w7.heap.size + 1 + 1 + 1, 0, none⟩) 5 5, .slice (some ⟨w7.heap.size + 1 + 1 + 1 + 1, 0, none⟩) 5 5]) (by simp [results, Tryz.results9, go_sem, e0, e1, e2, e3, e4, he, hq1, hq2, hq3, hq4]) rfl ?_
  exact ⟨w7.heap.size, w1.heap.size + 2, P, Q, n, n_tA, n_sA, n_tc, n_sc, c, some ⟨gb, 0, none⟩, c_bA, c_hA, c_gc, c_bc, c_hc, fr, ga, ds, rfl, HF.out, ((((D8.out.alloc _).alloc _).alloc _).alloc _).alloc _, ((((K8.out.alloc _).alloc _).alloc _).alloc _).alloc _, by omega, by omega, hf0, by omega, hgm, hd0, by omega⟩
end Go.Proofs.YtpbjpochjagicaaGreat

namespace Go.Proofs.YtpbjpochjagicaaGreat
open Go.RowKit

theorem three_new (w : World) (o1 o2 o3 : Obj) : (((w.alloc o1).alloc o2).alloc o3).heap[w.heap.size]? = some o1 ∧ (((w.alloc o1).alloc o2).alloc o3).heap[w.heap.size + 1]? = some o2 ∧ (((w.alloc o1).alloc o2).alloc o3).heap[w.heap.size + 1 + 1]? = some o3 ∧
    Below w.heap.size w (((w.alloc o1).alloc o2).alloc o3) ∧ (((w.alloc o1).alloc o2).alloc o3).heap.size = w.heap.size + 1 + 1 + 1 := by
  have h1 := heap_alloc_new w o1
  have h2 := heap_alloc_new (w.alloc o1) o2
  have h3 := heap_alloc_new ((w.alloc o1).alloc o2) o3
  have hs : ∀ (w : World) (o : Obj), (w.alloc o).heap.size = w.heap.size + 1 := fun w o => by simp
  simp only [hs] at h2 h3
  exact ⟨blk_alloc (blk_alloc h1 _) _, blk_alloc h2 _, h3, (((Below.refl _ _).alloc (Nat.le_refl _) _).alloc (by simp) _).alloc (by simp; omega) _, by simp⟩

set_option maxRecDepth 20000 in
set_option maxHeartbeats 4000000 in
theorem same_any (n : Pl.Nt) (n_tA n_sA : Option Addr) (n_tc n_sc : Nat) (c : Pl.Cch) (c_gA c_bA c_hA : Option Addr) (c_gc c_bc c_hc : Nat) (m_tA m_sA : Option Addr) (m_tc m_sc : Nat) (d_gA d_bA d_hA : Option Addr) (d_gc d_bc d_hc : Nat) (B i : Nat) (w : World)
    (hn : NReads w w.heap.size n n_tA n_sA n_tc n_sc) (hm : NReads w w.heap.size n m_tA m_sA m_tc m_sc) (hr : CReads w w.heap.size c c_gA c_bA c_hA c_gc c_bc c_hc) (hd : CReads w w.heap.size c d_gA d_bA d_hA d_gc d_bc d_hc)
    (lt : n.tracks.length ≤ 1000) (ls : n.shops.length ≤ 1000) (lg : c.gauges.length ≤ 1000) (lb : c.brakes.length ≤ 1000) (lh : c.heats.length ≤ 1000) (hi : i < 5) (hB : B + 1 < w.heap.size)
    (hN : (w.cell? ⟨B, i * 3, none⟩ = some (.int .i64 n.stops) ∧ w.cell? ⟨B, i * 3 + 1, none⟩ = some (.slice m_tA n.tracks.length m_tc) ∧ w.cell? ⟨B, i * 3 + 2, none⟩ = some (.slice m_sA n.shops.length m_sc))) (hC : (w.cell? ⟨B + 1, i * 6, none⟩ = some (.slice d_gA c.gauges.length d_gc) ∧ w.cell? ⟨B + 1, i * 6 + 1, none⟩ = some (.int .i64 c.size) ∧ w.cell? ⟨B + 1, i * 6 + 2, none⟩ = some (.int .i64 c.load) ∧ w.cell? ⟨B + 1, i * 6 + 3, none⟩ = some (.slice d_bA c.brakes.length d_bc) ∧ w.cell? ⟨B + 1, i * 6 + 4, none⟩ = some (.slice d_hA c.heats.length d_hc) ∧ w.cell? ⟨B + 1, i * 6 + 5, none⟩ = some (.bool c.hooks))) :
    Calls Tryz.prog 16 #[.agg #[.slice (some ⟨B, 0, none⟩) 5 5, .slice (some ⟨B + 1, 0, none⟩) 5 5, .slice (some ⟨B + 1 + 1, 0, none⟩) 5 5, .slice (some ⟨B + 1 + 1 + 1, 0, none⟩) 5 5, .slice (some ⟨B + 1 + 1 + 1 + 1, 0, none⟩) 5 5], .int .i64 i, .agg #[.int .i64 n.stops, .slice n_tA n.tracks.length n_tc, .slice n_sA n.shops.length n_sc], .agg #[.slice c_gA c.gauges.length c_gc, .int .i64 c.size, .int .i64 c.load, .slice c_bA c.brakes.length c_bc, .slice c_hA c.heats.length c_hc, .bool c.hooks]] w fun e w' => e = .returned (.bool true) ∧ Below w.heap.size w w' := by
  obtain ⟨m0, m1, m2, hb, hs⟩ := three_new w (.cells #[.slice (some ⟨B, 0, none⟩) 5 5, .slice (some ⟨B + 1, 0, none⟩) 5 5, .slice (some ⟨B + 1 + 1, 0, none⟩) 5 5, .slice (some ⟨B + 1 + 1 + 1, 0, none⟩) 5 5, .slice (some ⟨B + 1 + 1 + 1 + 1, 0, none⟩) 5 5] 33) (.cells #[.int .i64 n.stops, .slice n_tA n.tracks.length n_tc, .slice n_sA n.shops.length n_sc] 25) (.cells #[.slice c_gA c.gauges.length c_gc, .int .i64 c.size, .int .i64 c.load, .slice c_bA c.brakes.length c_bc, .slice c_hA c.heats.length c_hc, .bool c.hooks] 27)
  have hkp : ∀ W, Below (w.heap.size + 1 + 1 + 1) (((w.alloc (.cells #[.slice (some ⟨B, 0, none⟩) 5 5, .slice (some ⟨B + 1, 0, none⟩) 5 5, .slice (some ⟨B + 1 + 1, 0, none⟩) 5 5, .slice (some ⟨B + 1 + 1 + 1, 0, none⟩) 5 5, .slice (some ⟨B + 1 + 1 + 1 + 1, 0, none⟩) 5 5] 33)).alloc (.cells #[.int .i64 n.stops, .slice n_tA n.tracks.length n_tc, .slice n_sA n.shops.length n_sc] 25)).alloc (.cells #[.slice c_gA c.gauges.length c_gc, .int .i64 c.size, .int .i64 c.load, .slice c_bA c.brakes.length c_bc, .slice c_hA c.heats.length c_hc, .bool c.hooks] 27)) W → (W.cell? ⟨w.heap.size, 0, none⟩ = some (.slice (some ⟨B, 0, none⟩) 5 5) ∧ W.cell? ⟨w.heap.size, 1, none⟩ = some (.slice (some ⟨B + 1, 0, none⟩) 5 5)) ∧ (W.cell? ⟨w.heap.size + 1, 0, none⟩ = some (.int .i64 n.stops) ∧ W.cell? ⟨w.heap.size + 1, 1, none⟩ = some (.slice n_tA n.tracks.length n_tc) ∧ W.cell? ⟨w.heap.size + 1, 2, none⟩ = some (.slice n_sA n.shops.length n_sc)) ∧ (W.cell? ⟨w.heap.size + 1 + 1, 0, none⟩ = some (.slice c_gA c.gauges.length c_gc) ∧ W.cell? ⟨w.heap.size + 1 + 1, 1, none⟩ = some (.int .i64 c.size) ∧ W.cell? ⟨w.heap.size + 1 + 1, 2, none⟩ = some (.int .i64 c.load) ∧ W.cell? ⟨w.heap.size + 1 + 1, 3, none⟩ = some (.slice c_bA c.brakes.length c_bc) ∧ W.cell? ⟨w.heap.size + 1 + 1, 4, none⟩ = some (.slice c_hA c.heats.length c_hc) ∧ W.cell? ⟨w.heap.size + 1 + 1, 5, none⟩ = some (.bool c.hooks)) ∧ (W.cell? ⟨B, i * 3, none⟩ = some (.int .i64 n.stops) ∧ W.cell? ⟨B, i * 3 + 1, none⟩ = some (.slice m_tA n.tracks.length m_tc) ∧ W.cell? ⟨B, i * 3 + 2, none⟩ = some (.slice m_sA n.shops.length m_sc)) ∧ (W.cell? ⟨B + 1, i * 6, none⟩ = some (.slice d_gA c.gauges.length d_gc) ∧ W.cell? ⟨B + 1, i * 6 + 1, none⟩ = some (.int .i64 c.size) ∧ W.cell? ⟨B + 1, i * 6 + 2, none⟩ = some (.int .i64 c.load) ∧ W.cell? ⟨B + 1, i * 6 + 3, none⟩ = some (.slice d_bA c.brakes.length d_bc) ∧ W.cell? ⟨B + 1, i * 6 + 4, none⟩ = some (.slice d_hA c.heats.length d_hc) ∧ W.cell? ⟨B + 1, i * 6 + 5, none⟩ = some (.bool c.hooks)) := fun W hW => by
    have h0 := blk_below m0 hW (by omega)
    have h1 := blk_below m1 hW (by omega)
    have h2 := blk_below m2 hW (by omega)
    have hc : ∀ p : Addr, p.block < w.heap.size → W.cell? p = w.cell? p := fun p hp => (hW.cell (by omega)).trans (hb.cell hp)
    refine ⟨⟨blk_cell h0 0, blk_cell h0 1⟩, ⟨blk_cell h1 0, blk_cell h1 1, blk_cell h1 2⟩, ⟨blk_cell h2 0, blk_cell h2 1, blk_cell h2 2, blk_cell h2 3, blk_cell h2 4, blk_cell h2 5⟩, ?_, ?_⟩
    · have hq : ∀ j, W.cell? ⟨B, j, none⟩ = w.cell? ⟨B, j, none⟩ := fun j => hc ⟨B, j, none⟩ (by show B < _; omega)
      simp only [hq]
      exact hN
    · have hq : ∀ j, W.cell? ⟨B + 1, j, none⟩ = w.cell? ⟨B + 1, j, none⟩ := fun j => hc ⟨B + 1, j, none⟩ (by show B + 1 < _; omega)
      simp only [hq]
      exact hC
  have HN := Lib.hid ((hn.below hb).more (B' := w.heap.size + 1 + 1 + 1) (by omega))
  have HM := Lib.hid ((hm.below hb).more (B' := w.heap.size + 1 + 1 + 1) (by omega))
  have HR := Lib.hid ((hr.below hb).more (B' := w.heap.size + 1 + 1 + 1) (by omega))
  have HD := Lib.hid ((hd.below hb).more (B' := w.heap.size + 1 + 1 + 1) (by omega))
  have HS := Lib.hid hs
  have HB := Lib.hid hb
  have HKP := Lib.hid hkp
  have hi5 : (i : Int) < 5 := by omega
  clear hkp m0 m1 m2 hn hm hr hd hN hC hb hs
  go_enter Tryz.func16, Tryz.ntmps16
  go_wp2_with fail
  generalize (((w.alloc (.cells #[.slice (some ⟨B, 0, none⟩) 5 5, .slice (some ⟨B + 1, 0, none⟩) 5 5, .slice (some ⟨B + 1 + 1, 0, none⟩) 5 5, .slice (some ⟨B + 1 + 1 + 1, 0, none⟩) 5 5, .slice (some ⟨B + 1 + 1 + 1 + 1, 0, none⟩) 5 5] 33)).alloc (.cells #[.int .i64 n.stops, .slice n_tA n.tracks.length n_tc, .slice n_sA n.shops.length n_sc] 25)).alloc (.cells #[.slice c_gA c.gauges.length c_gc, .int .i64 c.size, .int .i64 c.load, .slice c_bA c.brakes.length c_bc, .slice c_hA c.heats.length c_hc, .bool c.hooks] 27)) = wt at *
  have hbd := (Below.refl (w.heap.size + 1 + 1 + 1) wt).drew
  have hS := HKP.out _ hbd
  have HSz : Hid (w.heap.size + 1 + 1 + 1 ≤ wt.drew.heap.size) := by show _ ≤ wt.heap.size; rw [HS.out]; exact Nat.le_refl _
  have HBD := Lib.hid hbd
  clear hbd
  go_region_held3 (fun W => (W.cell? ⟨w.heap.size, 0, none⟩ = some (.slice (some ⟨B, 0, none⟩) 5 5) ∧ W.cell? ⟨w.heap.size, 1, none⟩ = some (.slice (some ⟨B + 1, 0, none⟩) 5 5)) ∧ (W.cell? ⟨w.heap.size + 1, 0, none⟩ = some (.int .i64 n.stops) ∧ W.cell? ⟨w.heap.size + 1, 1, none⟩ = some (.slice n_tA n.tracks.length n_tc) ∧ W.cell? ⟨w.heap.size + 1, 2, none⟩ = some (.slice n_sA n.shops.length n_sc)) ∧ (W.cell? ⟨w.heap.size + 1 + 1, 0, none⟩ = some (.slice c_gA c.gauges.length c_gc) ∧ W.cell? ⟨w.heap.size + 1 + 1, 1, none⟩ = some (.int .i64 c.size) ∧ W.cell? ⟨w.heap.size + 1 + 1, 2, none⟩ = some (.int .i64 c.load) ∧ W.cell? ⟨w.heap.size + 1 + 1, 3, none⟩ = some (.slice c_bA c.brakes.length c_bc) ∧ W.cell? ⟨w.heap.size + 1 + 1, 4, none⟩ = some (.slice c_hA c.heats.length c_hc) ∧ W.cell? ⟨w.heap.size + 1 + 1, 5, none⟩ = some (.bool c.hooks)) ∧ (W.cell? ⟨B, i * 3, none⟩ = some (.int .i64 n.stops) ∧ W.cell? ⟨B, i * 3 + 1, none⟩ = some (.slice m_tA n.tracks.length m_tc) ∧ W.cell? ⟨B, i * 3 + 2, none⟩ = some (.slice m_sA n.shops.length m_sc)) ∧ (W.cell? ⟨B + 1, i * 6, none⟩ = some (.slice d_gA c.gauges.length d_gc) ∧ W.cell? ⟨B + 1, i * 6 + 1, none⟩ = some (.int .i64 c.size) ∧ W.cell? ⟨B + 1, i * 6 + 2, none⟩ = some (.int .i64 c.load) ∧ W.cell? ⟨B + 1, i * 6 + 3, none⟩ = some (.slice d_bA c.brakes.length d_bc) ∧ W.cell? ⟨B + 1, i * 6 + 4, none⟩ = some (.slice d_hA c.heats.length d_hc) ∧ W.cell? ⟨B + 1, i * 6 + 5, none⟩ = some (.bool c.hooks)))
    (first | go_keep | exact hS)
    (first
      | (go_at_call 48; refine (equalNet_any n n_tA n_sA n_tc n_sc m_tA m_sA m_tc m_sc wt.drew ((HN.out.below HBD.out).more HSz.out) ((HM.out.below HBD.out).more HSz.out) lt ls).mono ?_; rintro e w1 ⟨rfl, hb1⟩; have hb2 := HBD.out.trans (hb1.mono HSz.out); have hS := HKP.out _ hb2; have HB1 := Lib.hid hb2; have HSz1 : Hid (w.heap.size + 1 + 1 + 1 ≤ w1.heap.size) := Nat.le_trans HSz.out hb1.size; clear hb1 hb2)
      | (go_at_call 49; refine (equalCoach_any c c_gA c_bA c_hA c_gc c_bc c_hc d_gA d_bA d_hA d_gc d_bc d_hc w1 ((HR.out.below HB1.out).more HSz1.out) ((HD.out.below HB1.out).more HSz1.out) lg lb lh).mono ?_; rintro e w2 ⟨rfl, hb1⟩; have hb2 := HB1.out.trans (hb1.mono HSz1.out); have hS := HKP.out _ hb2; have HB2 := Lib.hid hb2; clear hb1 hb2))
  go_wp2_with fail
  go_ret
  exact ⟨rfl, HB.out.trans (HB2.out.mono (by omega))⟩
end Go.Proofs.YtpbjpochjagicaaGreat
