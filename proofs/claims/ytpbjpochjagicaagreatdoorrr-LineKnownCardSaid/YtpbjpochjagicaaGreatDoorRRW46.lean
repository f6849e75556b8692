/- Walks: the greatest load with which a car comes: Heaviest (by gen_heavy.py, out of W15 and W16). -/
import Derived.Test.YtpbjpochjagicaaGreatDoorRRW45
namespace Go.Proofs.YtpbjpochjagicaaGreatDoorRR
open Go.RowKit

def heaviest (n : Pl.Nt) (c : Pl.Cch) (fr g ds : Int) : Int := Pl.greatest (fun x => Pl.comes n { c with load := x } [] (fr, g) ds) 20
theorem ltrial_at (w : World) (c : Pl.Cch) (c_gA c_bA c_hA : Option Addr) (c_gc c_bc c_hc : Nat) (n : Pl.Nt) (n_tA n_sA : Option Addr) (n_tc n_sc : Nat) {N : Nat} (rA : Option Addr) (rl rc : Nat) (p : Pl.Place) (ds : Int) (hN : w.heap[N]? = some (.cells #[.int .i64 n.stops, .slice n_tA n.tracks.length n_tc, .slice n_sA n.shops.length n_sc] 25 (0, 0))) (x : Int) :
    CarAt (w.alloc (.cells #[.slice c_gA c.gauges.length c_gc, .int .i64 c.size, .int .i64 x, .slice c_bA c.brakes.length c_bc, .slice c_hA c.heats.length c_hc, .bool c.hooks, .pointer (some ⟨N, 0, none⟩), .slice rA rl rc, .int .i64 p.1, .int .i64 p.2, .int .i64 ds] 95)) w.heap.size N { c with load := x } c_gA c_bA c_hA c_gc c_bc c_hc n n_tA n_sA n_tc n_sc rA rl rc := by
  refine ⟨⟨#[.int .i64 p.1, .int .i64 p.2, .int .i64 ds], 95, ?_⟩, blk_alloc hN _⟩
  simpa using heap_alloc_new w (.cells #[.slice c_gA c.gauges.length c_gc, .int .i64 c.size, .int .i64 x, .slice c_bA c.brakes.length c_bc, .slice c_hA c.heats.length c_hc, .bool c.hooks, .pointer (some ⟨N, 0, none⟩), .slice rA rl rc, .int .i64 p.1, .int .i64 p.2, .int .i64 ds] 95)

set_option maxHeartbeats 1000000 in
theorem load_any (N : Nat) (c : Pl.Cch) (c_gA c_bA c_hA : Option Addr) (c_gc c_bc c_hc : Nat) (n : Pl.Nt) (n_tA n_sA : Option Addr) (n_tc n_sc : Nat) (rA : Option Addr) (reb : List Int) (rc : Nat) (p : Pl.Place) (ds : Int) (w : World) (hN : w.heap[N]? = some (.cells #[.int .i64 n.stops, .slice n_tA n.tracks.length n_tc, .slice n_sA n.shops.length n_sc] 25 (0, 0)))
    (hr : CReads w w.heap.size c c_gA c_bA c_hA c_gc c_bc c_hc) (hn : NReads w w.heap.size n n_tA n_sA n_tc n_sc) (hreb : Ints w w.heap.size rA reb) (hrl : reb.length ≤ 140737488355328) (x : Int)
    (U : List Pl.Place) (hU : ∀ y, Pl.Gets (Pl.run n { c with load := x } reb) n.tracks.length p y → y ∈ U) (hUl : U.length ≤ 24) :
    Calls Tryz.prog 47 #[.agg #[.slice c_gA c.gauges.length c_gc, .int .i64 c.size, .int .i64 c.load, .slice c_bA c.brakes.length c_bc, .slice c_hA c.heats.length c_hc, .bool c.hooks, .pointer (some ⟨N, 0, none⟩), .slice rA reb.length rc, .int .i64 p.1, .int .i64 p.2, .int .i64 ds], .int .i64 x] w fun e w' => e = .returned (.bool (Pl.comes n { c with load := x } reb p ds)) ∧ Below w.heap.size w w' := by
  have hb : Below w.heap.size w (w.alloc (.cells #[.slice c_gA c.gauges.length c_gc, .int .i64 c.size, .int .i64 x, .slice c_bA c.brakes.length c_bc, .slice c_hA c.heats.length c_hc, .bool c.hooks, .pointer (some ⟨N, 0, none⟩), .slice rA reb.length rc, .int .i64 p.1, .int .i64 p.2, .int .i64 ds] 95)) := (Below.refl _ _).alloc (Nat.le_refl _) _
  have hA := ltrial_at w c c_gA c_bA c_hA c_gc c_bc c_hc n n_tA n_sA n_tc n_sc rA reb.length rc p ds hN x
  have hr' : CReads w w.heap.size { c with load := x } c_gA c_bA c_hA c_gc c_bc c_hc := ⟨hr.gauges, hr.brakes, hr.heats, hr.lenG, hr.lenB, hr.lenH⟩
  have HC := Lib.hid (comes_any w.heap.size N { c with load := x } c_gA c_bA c_hA c_gc c_bc c_hc n n_tA n_sA n_tc n_sc rA reb rc p ds _ hA ((hr'.below hb).more (by simp)) ((hn.below hb).more (by simp)) ((hreb.below hb).more (by simp)) hrl U hU hUl)
  have HB := Lib.hid hb
  clear hA hb hU hr hr' hn hreb hN
  go_enter Tryz.func47, Tryz.ntmps47
  go_wp2_with fail
  refine HC.out.mono ?_
  rintro e w1 ⟨rfl, hb1⟩
  simp only [World.size_alloc] at hb1
  go_wp2_with fail
  go_ret
  exact ⟨rfl, HB.out.trans (hb1.mono (by omega))⟩
def heavyVal (n : Pl.Nt) (c : Pl.Cch) (fr g ds : Int) : Value := if Pl.asked n c fr g ds ≠ 0 then .tuple #[.int .i64 0, .int .i64 (Pl.asked n c fr g ds)] else greatVal (heaviest n c fr g ds)
theorem load_enter (bv x : Value) (wr : World) : Sem.run Tryz.prog (callFunc 47 #[bv, x]) wr = .ok (.enter 47 #[bv, x]) wr := by kernel_rfl

set_option maxRecDepth 100000 in
set_option maxHeartbeats 4000000 in
theorem heaviest_any (n : Pl.Nt) (n_tA n_sA : Option Addr) (n_tc n_sc : Nat) (c : Pl.Cch) (c_gA c_bA c_hA : Option Addr) (c_gc c_bc c_hc : Nat) (fr g ds : Int) (w : World) (hn : NReads w w.heap.size n n_tA n_sA n_tc n_sc) (hr : CReads w w.heap.size c c_gA c_bA c_hA c_gc c_bc c_hc) :
    Calls Tryz.prog 19 #[.agg #[.int .i64 n.stops, .slice n_tA n.tracks.length n_tc, .slice n_sA n.shops.length n_sc], .agg #[.slice c_gA c.gauges.length c_gc, .int .i64 c.size, .int .i64 c.load, .slice c_bA c.brakes.length c_bc, .slice c_hA c.heats.length c_hc, .bool c.hooks], .int .i64 fr, .int .i64 g, .int .i64 ds] w fun e w' => e = .returned (heavyVal n c fr g ds) ∧ Below w.heap.size w w' := by
  have hb2 : Below w.heap.size w ((w.alloc (.cells #[.int .i64 n.stops, .slice n_tA n.tracks.length n_tc, .slice n_sA n.shops.length n_sc] 25)).alloc (.cells #[.slice c_gA c.gauges.length c_gc, .int .i64 c.size, .int .i64 c.load, .slice c_bA c.brakes.length c_bc, .slice c_hA c.heats.length c_hc, .bool c.hooks] 28)) := ((Below.refl _ _).alloc (Nat.le_refl _) _).alloc (by simp) _
  have hsz : ((w.alloc (.cells #[.int .i64 n.stops, .slice n_tA n.tracks.length n_tc, .slice n_sA n.shops.length n_sc] 25)).alloc (.cells #[.slice c_gA c.gauges.length c_gc, .int .i64 c.size, .int .i64 c.load, .slice c_bA c.brakes.length c_bc, .slice c_hA c.heats.length c_hc, .bool c.hooks] 28)).heap.size = w.heap.size + 1 + 1 := by simp
  have Hn := Lib.hid ((hn.below hb2).more (B' := w.heap.size + 1 + 1) (by omega))
  have Hr := Lib.hid ((hr.below hb2).more (B' := w.heap.size + 1 + 1) (by omega))
  have HB2 := Lib.hid hb2; clear hb2 hn hr
  by_cases hA : Pl.asked n c fr g ds = 0
  · have hU := fun x => asked_in (c' := { c with load := x }) (reb := []) hA
    have HN : Hid (heavyVal n c fr g ds = greatVal (heaviest n c fr g ds)) := by show _ = _; rw [heavyVal, if_neg (by simp [hA])]
    have HQ := Lib.hid (asked_yes n n_tA n_sA n_tc n_sc c c_gA c_bA c_hA c_gc c_bc c_hc fr g ds _ (by rw [hsz]; exact Hn.out) (by rw [hsz]; exact Hr.out) hA)
    have HU := Lib.hid hU
    clear hA hU hsz
    go_enter Tryz.func19, Tryz.ntmps19
    go_wp2_with fail
    refine HQ.out.mono ?_
    rintro e w1 ⟨X, N, rfl, hcar, hX, hN, hb⟩
    clear HQ
    obtain ⟨x0, x1, x2, x3, x4, x5, x6, x7⟩ := And.intro hcar.c0 (And.intro hcar.c1 (And.intro hcar.c2 (And.intro hcar.c3 (And.intro hcar.c4 (And.intro hcar.c5 (And.intro hcar.c6 hcar.c7))))))
    have hXs := hcar.ltX
    have Hcar := Lib.hid hcar; have Hb := Lib.hid hb
    clear hcar hb
    go_wp2_with fail
    have hWb : Below w.heap.size w (w1.alloc (.cells #[.int .i64 fr, .int .i64 g] 64)).drew := by
      have := (HB2.out.trans (Hb.out.mono (by simp; omega))).alloc (by simp at hX; omega) (.cells #[.int .i64 fr, .int .i64 g] 64)
      exact ⟨this.os, this.tape, this.output, this.size, this.block⟩
    have hg := greatest_any 47 (.agg #[.slice c_gA c.gauges.length c_gc, .int .i64 c.size, .int .i64 c.load, .slice c_bA c.brakes.length c_bc, .slice c_hA c.heats.length c_hc, .bool c.hooks, .pointer (some ⟨N, 0, none⟩), .slice none 0 0, .int .i64 fr, .int .i64 g, .int .i64 ds])
      (fun x => Pl.comes n { c with load := x } [] (fr, g) ds) 20 (by omega) (w1.alloc (.cells #[.int .i64 fr, .int .i64 g] 64)).drew (fun x wr => load_enter _ x wr) (fun wr x hbr _ _ => by
        have hNr : wr.heap[N]? = some (.cells #[.int .i64 n.stops, .slice n_tA n.tracks.length n_tc, .slice n_sA n.shops.length n_sc] 25 (0, 0)) := blk_below (show (w1.alloc (.cells #[.int .i64 fr, .int .i64 g] 64)).drew.heap[N]? = _ from blk_alloc Hcar.out.net _) hbr (by have := Hcar.out.ltN; simp [World.drew]; omega)
        have hW1 : Below (w.heap.size + 1 + 1) ((w.alloc (.cells #[.int .i64 n.stops, .slice n_tA n.tracks.length n_tc, .slice n_sA n.shops.length n_sc] 25)).alloc (.cells #[.slice c_gA c.gauges.length c_gc, .int .i64 c.size, .int .i64 c.load, .slice c_bA c.brakes.length c_bc, .slice c_hA c.heats.length c_hc, .bool c.hooks] 28)) wr := by
          refine (Hb.out.mono (by simp)).trans (Below.trans (b := (w1.alloc (.cells #[.int .i64 fr, .int .i64 g] 64)).drew) ?_ (hbr.mono (by simp [World.drew]; simp at hX; omega)))
          have := (Below.refl (w.heap.size + 1 + 1) w1).alloc (by simp at hX; omega) (.cells #[.int .i64 fr, .int .i64 g] 64)
          exact ⟨this.os, this.tape, this.output, this.size, this.block⟩
        have hsr : w.heap.size + 1 + 1 ≤ wr.heap.size := by have := hW1.size; simpa using this
        exact (load_any N c c_gA c_bA c_hA c_gc c_bc c_hc n n_tA n_sA n_tc n_sc none [] 0 (fr, g) ds wr hNr ((Hr.out.below hW1).more hsr) ((Hn.out.below hW1).more hsr) (Ints.nil _ _ _) (by simp) x places (HU.out x) places_length).mono fun e w' ⟨h1, h2⟩ => ⟨h1, h2.mono hbr.size⟩)
    have HG := Lib.hid hg; have HWb := Lib.hid hWb; clear hg hWb
    have y0 : (w1.alloc (.cells #[.int .i64 fr, .int .i64 g] 64)).cell? ⟨w1.heap.size, 0, none⟩ = some (.int .i64 fr) := blk_cell (heap_alloc_new w1 _) 0
    have y1 : (w1.alloc (.cells #[.int .i64 fr, .int .i64 g] 64)).cell? ⟨w1.heap.size, 1, none⟩ = some (.int .i64 g) := blk_cell (heap_alloc_new w1 _) 1
    obtain ⟨v, hv⟩ : ∃ v, greatVal (Pl.greatest (fun x => Pl.comes n { c with load := x } [] (fr, g) ds) 20) = .tuple #[.int .i64 (heaviest n c fr g ds), .int .i64 v] := ⟨_, rfl⟩
    have HV := Lib.hid (HN.out.trans hv)
    have Hv := Lib.hid hv
    clear hv
    have hk : ∀ w', Below (w1.alloc (.cells #[.int .i64 fr, .int .i64 g] 64)).drew.heap.size (w1.alloc (.cells #[.int .i64 fr, .int .i64 g] 64)).drew w' → w'.cell? ⟨X, 0, none⟩ = some (.slice c_gA c.gauges.length c_gc) ∧ w'.cell? ⟨X, 1, none⟩ = some (.int .i64 c.size) ∧ w'.cell? ⟨X, 2, none⟩ = some (.int .i64 c.load) ∧
        w'.cell? ⟨X, 3, none⟩ = some (.slice c_bA c.brakes.length c_bc) ∧ w'.cell? ⟨X, 4, none⟩ = some (.slice c_hA c.heats.length c_hc) ∧ w'.cell? ⟨X, 5, none⟩ = some (.bool c.hooks) ∧
        w'.cell? ⟨X, 6, none⟩ = some (.pointer (some ⟨N, 0, none⟩)) ∧ w'.cell? ⟨X, 7, none⟩ = some (.slice none 0 0) ∧ w'.cell? ⟨w1.heap.size, 0, none⟩ = some (.int .i64 fr) ∧ w'.cell? ⟨w1.heap.size, 1, none⟩ = some (.int .i64 g) := by
      intro w' hb'
      have hX' : X < (w1.alloc (.cells #[.int .i64 fr, .int .i64 g] 64)).drew.heap.size := by simp [World.drew]; omega
      have hP' : w1.heap.size < (w1.alloc (.cells #[.int .i64 fr, .int .i64 g] 64)).drew.heap.size := by simp [World.drew]
      have hc : ∀ i, w'.cell? ⟨X, i, none⟩ = w1.cell? ⟨X, i, none⟩ := fun i => (hb'.cell (p := ⟨X, i, none⟩) hX').trans (World.cell?_alloc_lt w1 _ ⟨X, i, none⟩ hXs)
      have hd : ∀ i, w'.cell? ⟨w1.heap.size, i, none⟩ = (w1.alloc (.cells #[.int .i64 fr, .int .i64 g] 64)).cell? ⟨w1.heap.size, i, none⟩ := fun i => hb'.cell (p := ⟨w1.heap.size, i, none⟩) hP'
      exact ⟨(hc 0).trans x0, (hc 1).trans x1, (hc 2).trans x2, (hc 3).trans x3, (hc 4).trans x4, (hc 5).trans x5, (hc 6).trans x6, (hc 7).trans x7, (hd 0).trans y0, (hd 1).trans y1⟩
    have HK := Lib.hid hk; clear hk
    go_region_held3 (fun w' => w'.cell? ⟨X, 0, none⟩ = some (.slice c_gA c.gauges.length c_gc) ∧ w'.cell? ⟨X, 1, none⟩ = some (.int .i64 c.size) ∧ w'.cell? ⟨X, 2, none⟩ = some (.int .i64 c.load) ∧
        w'.cell? ⟨X, 3, none⟩ = some (.slice c_bA c.brakes.length c_bc) ∧ w'.cell? ⟨X, 4, none⟩ = some (.slice c_hA c.heats.length c_hc) ∧ w'.cell? ⟨X, 5, none⟩ = some (.bool c.hooks) ∧
        w'.cell? ⟨X, 6, none⟩ = some (.pointer (some ⟨N, 0, none⟩)) ∧ w'.cell? ⟨X, 7, none⟩ = some (.slice none 0 0) ∧ w'.cell? ⟨w1.heap.size, 0, none⟩ = some (.int .i64 fr) ∧ w'.cell? ⟨w1.heap.size, 1, none⟩ = some (.int .i64 g))
      (first
        | go_keep
        | exact hS)
      (first | (go_at_call 46; refine HG.out.mono ?_; rintro e w2 ⟨rfl, hb2⟩; have hS := HK.out w2 hb2; rw [Hv.out]))
    have HW2 := Lib.hid (HWb.out.trans (hb2.mono HWb.out.size))
    clear hb2 HG
    go_wp2_with fail
    go_ret2
    exact ⟨by rw [HV.out]; rfl, HW2.out⟩
  · have HN : Hid (heavyVal n c fr g ds = .tuple #[.int .i64 0, .int .i64 (Pl.asked n c fr g ds)]) := by show _ = _; rw [heavyVal, if_pos hA]
    have HQ := Lib.hid (asked_no n n_tA n_sA n_tc n_sc c c_gA c_bA c_hA c_gc c_bc c_hc fr g ds _ (by rw [hsz]; exact Hn.out) (by rw [hsz]; exact Hr.out) hA)
    have hb : (Pl.asked n c fr g ds != 0) = true := by rw [bne_iff_ne]; exact hA
    clear hA hsz
    go_enter Tryz.func19, Tryz.ntmps19
    go_wp2_with fail
    refine HQ.out.mono ?_
    rintro e w1 ⟨rfl, hb1⟩
    have HW := Lib.hid (HB2.out.trans (hb1.mono (by simp; omega)))
    have hs := HW.out.size
    clear hb1
    go_wp2_with fail
    go_ret2
    exact ⟨by rw [HN.out]; rfl, HW.out.alloc hs _⟩
end Go.Proofs.YtpbjpochjagicaaGreatDoorRR
