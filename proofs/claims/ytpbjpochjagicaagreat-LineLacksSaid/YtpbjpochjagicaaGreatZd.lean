/- Walks: LineLacks (by gen_zlaw.py). -/
import Derived.Test.YtpbjpochjagicaaGreatZq
import Derived.Test.YtpbjpochjagicaaGreatZb
import Derived.Test.YtpbjpochjagicaaGreatW25
import Derived.Test.YtpbjpochjagicaaGreatW34
namespace Go.Proofs.YtpbjpochjagicaaGreat
open Go.RowKit

theorem fewest_len {all : List Int} {f : List Int → Bool} {l : List Int} : ∀ {k m : Nat}, Pl.fewestFrom all f k m = some l → l.length ≤ all.length
  | 0, _, h => by cases h
  | k + 1, m, h => by
    rw [Pl.fewestFrom] at h
    cases hf : (Pl.lists all m).find? f with
    | some l' =>
      rw [hf] at h
      injection h with h
      subst h
      exact (lists_sub (List.mem_of_find?_eq_some hf)).1.length_le
    | none =>
      rw [hf] at h
      exact fewest_len h
def listOf (q : Int) (r : Option (List Int)) : List Int := if q = 0 then r.getD [] else []
def errOf (q : Int) (r : Option (List Int)) : Int := if q = 0 then (if r.isSome then 0 else 11) else q
theorem listPost_list {q : Int} {r : Option (List Int)} {w w' : World} {e : Ending} (h : ListPost q r w e w') :
    ∃ A cp, e = .returned (.tuple #[.slice A (listOf q r).length cp, .int .i64 (errOf q r)]) ∧ Ints w' w'.heap.size A (listOf q r) ∧ Below w.heap.size w w' := by
  obtain ⟨A, k, cp, v, rfl, hb, h1, h2, h3⟩ := h
  unfold listOf errOf
  by_cases hq : q = 0
  · cases r with
    | none =>
      obtain ⟨rfl, rfl⟩ := h2 hq rfl
      rw [if_pos hq, if_pos hq]
      exact ⟨A, cp, rfl, Ints.nil _ _ _, hb⟩
    | some l =>
      obtain ⟨rfl, rfl, hI⟩ := h3 l hq rfl
      rw [if_pos hq, if_pos hq]
      exact ⟨A, cp, rfl, hI, hb⟩
  · obtain ⟨rfl, rfl⟩ := h1 hq
    rw [if_neg hq, if_neg hq]
    exact ⟨A, cp, rfl, Ints.nil _ _ _, hb⟩
theorem listOf_len {q : Int} {r : Option (List Int)} {k : Nat} (h : ∀ l, q = 0 → r = some l → l.length ≤ k) : (listOf q r).length ≤ k := by
  unfold listOf
  split
  · rename_i hq
    cases r with
    | none => simp
    | some l => exact h l hq rfl
  · simp
theorem lacks_len (n : Pl.Nt) (c : Pl.Cch) (fr g ds : Int) : (listOf (Pl.asked n c fr g ds) (Pl.lacks n c fr g ds)).length ≤ 1000 :=
  listOf_len fun l _ h => by
    have h1 := fewest_len (show Pl.fewestFrom _ _ _ _ = some l from h)
    have h2 := missing_length c
    omega
set_option maxRecDepth 20000 in
set_option maxHeartbeats 40000000 in
theorem law3 (a : Pl.Nt) (a_tA a_sA : Option Addr) (a_tc a_sc : Nat) (z : Pl.Cch) (z_gA z_bA z_hA : Option Addr) (z_gc z_bc z_hc : Nat) (p1 p2 p3 : Int) (A : Option Addr) (cp : Nat) (xs : List Int) (w : World) (hh : largeIn a z = false → NReads w w.heap.size a a_tA a_sA a_tc a_sc ∧ CReads w w.heap.size z z_gA z_bA z_hA z_gc z_bc z_hc) (hx : Ints w w.heap.size A xs) (hl : xs.length ≤ 9223372036854775807) :
    Calls Tryz.prog 3 #[.agg #[.int .i64 a.stops, .slice a_tA a.tracks.length a_tc, .slice a_sA a.shops.length a_sc], .agg #[.slice z_gA z.gauges.length z_gc, .int .i64 z.size, .int .i64 z.load, .slice z_bA z.brakes.length z_bc, .slice z_hA z.heats.length z_hc, .bool z.hooks], .int .i64 p1, .int .i64 p2, .int .i64 p3, .slice A xs.length cp] w fun e w' => e = .returned (.bool true) ∧ Below w.heap.size w w' := by
  obtain ⟨m0, m1, hb, hs⟩ := two_new w #[.int .i64 a.stops, .slice a_tA a.tracks.length a_tc, .slice a_sA a.shops.length a_sc] #[.slice z_gA z.gauges.length z_gc, .int .i64 z.size, .int .i64 z.load, .slice z_bA z.brakes.length z_bc, .slice z_hA z.heats.length z_hc, .bool z.hooks] 25 27
  have hkp := boxes_keep a a_tA a_sA a_tc a_sc z z_gA z_bA z_hA z_gc z_bc z_hc m0 m1
  rw [hs] at hkp
  have HX := Lib.hid ((hx.below hb).more (B' := w.heap.size + 2) (by omega))
  have HS := Lib.hid hs
  have HB := Lib.hid hb
  have HKP := Lib.hid hkp
  obtain ⟨⟨n0, n1, n2⟩, y0, y1, y2, y3, y4, y5⟩ := hkp _ (by rw [← hs]; exact Below.refl _ _)
  clear hkp m0 m1 hs hx
  cases hL : largeIn a z
  · obtain ⟨ha, hz⟩ := hh hL
    have HA := Lib.hid ((ha.below hb).more (B' := w.heap.size + 2) (by omega))
    have HZ := Lib.hid ((hz.below hb).more (B' := w.heap.size + 2) (by omega))
    have F1 := Lib.hid (few_of hL)
    clear ha hz hh hb
    go_enter Tryz.func3, Tryz.ntmps3
    go_wp2_with fail
    generalize ((w.alloc (.cells #[.int .i64 a.stops, .slice a_tA a.tracks.length a_tc, .slice a_sA a.shops.length a_sc] 25)).alloc (.cells #[.slice z_gA z.gauges.length z_gc, .int .i64 z.size, .int .i64 z.load, .slice z_bA z.brakes.length z_bc, .slice z_hA z.heats.length z_hc, .bool z.hooks] 27)) = w0 at *
    go_wp2_with fail
    refine (large_any a a_tA a_sA a_tc a_sc z z_gA z_bA z_hA z_gc z_bc z_hc w0).mono ?_
    rintro e w1 ⟨rfl, hb1⟩
    rw [HS.out] at hb1
    rw [hL]
    have HB1 := Lib.hid hb1
    have HSz1 : Hid (w.heap.size + 2 ≤ w1.heap.size) := HS.out ▸ hb1.size
    clear hb1 hL n0 n1 n2 y0 y1 y2 y3 y4 y5
    go_upto_region 3 with fail
    go_cut [13] (fun v wx => ∃ (g B base P Q X : Nat) (n : Pl.Nt) (n_tA n_sA : Option Addr) (n_tc n_sc : Nat) (c : Pl.Cch) (c_gA c_bA c_hA : Option Addr) (c_gc c_bc c_hc : Nat) (fr ga ds : Int), v = .pointer (some ⟨X, 0, none⟩) ∧ Hid (Asking g B X base P Q (w.heap.size + 2) wx a a_tA a_sA a_tc a_sc z z_gA z_bA z_hA z_gc z_bc z_hc n n_tA n_sA n_tc n_sc c c_gA c_bA c_hA c_gc c_bc c_hc p1 p2 p3 fr ga ds) ∧ Hid (Below w.heap.size w wx))
    case first =>
      have hS := HKP.out _ HB1.out.drew
      refine wp_region_L (by kernel_rfl) (fun W => (((W.cell? ⟨w.heap.size, 0, none⟩ = some (.int .i64 a.stops) ∧ W.cell? ⟨w.heap.size, 1, none⟩ = some (.slice a_tA a.tracks.length a_tc) ∧ W.cell? ⟨w.heap.size, 2, none⟩ = some (.slice a_sA a.shops.length a_sc)) ∧ (W.cell? ⟨w.heap.size + 1, 0, none⟩ = some (.slice z_gA z.gauges.length z_gc) ∧ W.cell? ⟨w.heap.size + 1, 1, none⟩ = some (.int .i64 z.size) ∧ W.cell? ⟨w.heap.size + 1, 2, none⟩ = some (.int .i64 z.load) ∧ W.cell? ⟨w.heap.size + 1, 3, none⟩ = some (.slice z_bA z.brakes.length z_bc) ∧ W.cell? ⟨w.heap.size + 1, 4, none⟩ = some (.slice z_hA z.heats.length z_hc) ∧ W.cell? ⟨w.heap.size + 1, 5, none⟩ = some (.bool z.hooks))))) [] ?_
      refine wpAnyL_take (i := 0) (v := ?vm_0) rfl (by kernel_rfl) (by kernel_rfl) (by kernel_rfl) (by kernel_rfl) (by rfl) (fun _ _ _ h => h) hS (Or.inl ⟨by rfl, ?hym_0⟩) ?hrm_0
      case hym_0 => (intro w hSw; (try dsimp only at hSw); go_simp; (try rfl))
      simp only [List.getElem_toArray, List.getElem_cons_zero, Act.put, List.setIfInBounds_toArray, List.set_cons_zero, List.set_cons_succ]
      refine wpAnyL_take (i := 1) (v := ?vm_1) rfl (by kernel_rfl) (by kernel_rfl) (by kernel_rfl) (by kernel_rfl) (by rfl) (fun _ _ _ h => h) hS (Or.inl ⟨by rfl, ?hym_1⟩) ?hrm_1
      case hym_1 => (intro w hSw; (try dsimp only at hSw); go_simp; (try rfl))
      simp only [List.getElem_toArray, List.getElem_cons_succ, List.getElem_cons_zero, Act.put, List.setIfInBounds_toArray, List.set_cons_zero, List.set_cons_succ]
      refine wpAnyL_take (i := 2) (v := ?vm_2) rfl (by kernel_rfl) (by kernel_rfl) (by kernel_rfl) (by kernel_rfl) (by rfl) (fun _ _ _ h => h) hS (Or.inl ⟨by rfl, ?hym_2⟩) ?hrm_2
      case hym_2 => (intro w hSw; (try dsimp only at hSw); go_simp; (try rfl))
      simp only [List.getElem_toArray, List.getElem_cons_succ, List.getElem_cons_zero, Act.put, List.setIfInBounds_toArray, List.set_cons_zero, List.set_cons_succ]
      refine wpAnyL_take (i := 3) (v := ?vm_3) rfl (by kernel_rfl) (by kernel_rfl) (by kernel_rfl) (by kernel_rfl) (by rfl) (fun _ _ _ h => h) hS (Or.inl ⟨by rfl, ?hym_3⟩) ?hrm_3
      case hym_3 => (intro w hSw; (try dsimp only at hSw); go_simp; (try rfl))
      simp only [List.getElem_toArray, List.getElem_cons_succ, List.getElem_cons_zero, Act.put, List.setIfInBounds_toArray, List.set_cons_zero, List.set_cons_succ]
      refine wpAnyL_take (i := 4) (v := ?vm_4) rfl (by kernel_rfl) (by kernel_rfl) (by kernel_rfl) (by kernel_rfl) (by rfl) (fun _ _ _ h => h) hS (Or.inl ⟨by rfl, ?hym_4⟩) ?hrm_4
      case hym_4 => (intro w hSw; (try dsimp only at hSw); go_simp; (try rfl))
      simp only [List.getElem_toArray, List.getElem_cons_succ, List.getElem_cons_zero, Act.put, List.setIfInBounds_toArray, List.set_cons_zero, List.set_cons_succ]
      refine wpAnyL_take (i := 5) (v := ?vm_5) rfl (by kernel_rfl) (by kernel_rfl) (by kernel_rfl) (by kernel_rfl) (by rfl) (fun _ _ _ h => h) hS (Or.inl ⟨by rfl, ?hym_5⟩) ?hrm_5
      case hym_5 => (intro w hSw; (try dsimp only at hSw); go_simp; (try rfl))
      simp only [List.getElem_toArray, List.getElem_cons_succ, List.getElem_cons_zero, Act.put, List.setIfInBounds_toArray, List.set_cons_zero, List.set_cons_succ]
      clear hS
      have hG0 : Below (w.heap.size + 2) w0 w1.drew ∧ w.heap.size + 2 ≤ w1.drew.heap.size := ⟨HB1.out.drew, HSz1.out⟩
      refine wpAnyL_float2 [⟨6, 31, [], []⟩, ⟨7, 32, [6], [6]⟩, ⟨8, 13, [], []⟩] (MkF a a_tA a_sA a_tc a_sc z z_gA z_bA z_hA z_gc z_bc z_hc p1 p2 p3 (w.heap.size + 2)) (fun W => Below (w.heap.size + 2) w0 W ∧ w.heap.size + 2 ≤ W.heap.size) MkSt _
        (target := #[true, true, true, true, true, true, true, true, true, false]) (fuel0 := 1) (by decide) (by decide) (by simp) (fun W hW => HKP.out W hW.1)
        ?hst ?hop ?hfin 3 [6, 7, 8] _ _ _ (by kernel_rfl) (by decide) (fun _ _ => rfl) rfl rfl hG0 (by intro f hf; simp only [List.mem_cons, List.not_mem_nil, or_false] at hf; rcases hf with rfl | rfl | rfl <;> (intro h; simp at h)) (by intro f hf; simp only [List.mem_cons, List.not_mem_nil, or_false] at hf; rcases hf with rfl | rfl | rfl <;> (intro h; simp at h))
      case hst =>
        intro e he f hf hne hk hd v W W' hSt hF
        simp only [List.mem_cons, List.not_mem_nil, or_false] at he hf
        rcases he with rfl | rfl | rfl
        · exact hF.step (by simpa [MkSt] using hSt)
        · have hSt' : ∀ (b : Nat) (cs : Array Value) (t : TypeId), W.heap[b]? = some (.cells cs t (0, 0)) → t ≠ 60 → W'.heap[b]? = some (.cells cs t (0, 0)) := by simpa [MkSt] using hSt
          rcases hf with rfl | rfl | rfl
          · exact absurd (by simp) hk
          · exact absurd rfl hne
          · obtain ⟨X, h0, h1, h2⟩ := hF.2.2 rfl
            exact MkF.m8 ⟨X, h0, h1, hSt' X _ 33 h2 (by decide)⟩
        · exact hF.step (by simpa [MkSt] using hSt)
      case hop =>
        intro e he a' w' K' hag hdf hG hdep hK
        clear hdf
        simp only [List.mem_cons, List.not_mem_nil, or_false] at he
        rcases he with rfl | rfl | rfl
        · have h1 := getD_tmp ((hag 30 (by simp)).trans (show _ = some (.slice A xs.length cp) from rfl))
          refine wpOp_step rfl ?_
          intro K2 hK2
          have HK2 := Lib.hid hK2
          clear hK2 hag hdep
          go_simp
          refine (newBag_any A cp xs _ ((HX.out.below hG.1).more hG.2) hl).mono ?_
          rintro e w5 ⟨g, rfl, hgw, hbag, hb5⟩
          exact HK2.out _ _ (hK.out _ _ (show MkSt 6 _ _ from hb5) ⟨hG.1.trans (hb5.mono hG.2), Nat.le_trans hG.2 hb5.size⟩ (MkF.m6 ⟨g, rfl, Nat.le_trans hG.2 hgw, hbag⟩))
        · obtain ⟨v6, g6, F6⟩ := hdep ⟨6, 31, [], []⟩ (by simp) (by simp)
          obtain ⟨g, rfl, hgH, hbag⟩ := F6.1 rfl
          have k9 := getD_tmp g6
          have k0 := getD_tmp ((hag 25 (by simp)).trans (show _ = some (.agg #[.int .i64 a.stops, .slice a_tA a.tracks.length a_tc, .slice a_sA a.shops.length a_sc]) from rfl))
          have k1 := getD_tmp ((hag 26 (by simp)).trans (show _ = some (.agg #[.slice z_gA z.gauges.length z_gc, .int .i64 z.size, .int .i64 z.load, .slice z_bA z.brakes.length z_bc, .slice z_hA z.heats.length z_hc, .bool z.hooks]) from rfl))
          have k2 := getD_tmp ((hag 27 (by simp)).trans (show _ = some (.int .i64 p1) from rfl))
          have k3 := getD_tmp ((hag 28 (by simp)).trans (show _ = some (.int .i64 p2) from rfl))
          have k4 := getD_tmp ((hag 29 (by simp)).trans (show _ = some (.int .i64 p3) from rfl))
          refine wpOp_step rfl ?_
          intro K2 hK2
          have HK2 := Lib.hid hK2
          clear hK2 hag hdep
          go_simp
          refine (made_any a a_tA a_sA a_tc a_sc z z_gA z_bA z_hA z_gc z_bc z_hc p1 p2 p3 g _ hbag).mono ?_
          rintro e w5 ⟨B, base, P, Q, n, n_tA, n_sA, n_tc, n_sc, c, c_gA, c_bA, c_hA, c_gc, c_bc, c_hc, fr, ga, ds, rfl, hblk, hD, hK3, hbase, hBw, _⟩
          exact HK2.out _ _ (hK.out _ _ (mkSt_kb hK3 hbag) ⟨hG.1.trans (hK3.below hgH hbag.lt), Nat.le_trans hG.2 hK3.size⟩ (MkF.m7 ⟨g, B, base, P, Q, n, n_tA, n_sA, n_tc, n_sc, c, c_gA, c_bA, c_hA, c_gc, c_bc, c_hc, fr, ga, ds, rfl, hblk, hD, hgH, Nat.lt_of_lt_of_le hbag.lt hBw⟩))
        · refine wpOp_step rfl ?_
          intro K2 hK2
          have HK2 := Lib.hid hK2
          clear hK2 hag hdep
          go_simp
          exact HK2.out _ _ (hK.out _ _ (show MkSt 8 _ _ from (Below.refl _ _).alloc (Nat.le_refl _) _) ⟨hG.1.alloc hG.2 _, by have := hG.2; simp; omega⟩ (MkF.m8 ⟨_, rfl, hG.2, heap_alloc_new _ _⟩))
      case hfin =>
        intro a' w' hag hdf hsz hG hF
        have hsz2 : a'.tmps.size = 120 := hsz
        obtain ⟨v1, g1⟩ : ∃ v, a'.tmps[31]? = some v := ⟨_, Array.getElem?_eq_getElem (by rw [hsz2]; decide)⟩
        obtain ⟨v2, g2, F2⟩ := hF ⟨7, 32, [6], [6]⟩ (by simp) (by simp)
        obtain ⟨v3, g3, F3⟩ := hF ⟨8, 13, [], []⟩ (by simp) (by simp)
        have ha := act_of [(31, v1), (32, v2), (13, v3)] hdf hsz (fun s hs => hag s (by simpa using hs)) (show ([31, 32, 13] : List Nat).Nodup by decide) (fun x hx => by simp only [List.mem_cons, List.not_mem_nil, or_false] at hx; rcases hx with rfl | rfl | rfl <;> first | exact g1 | exact g2 | exact g3)
        obtain ⟨g, B, base, P, Q, n, n_tA, n_sA, n_tc, n_sc, c, c_gA, c_bA, c_hA, c_gc, c_bc, c_hc, fr, ga, ds, rfl, hblk, hD, hgH, hgB⟩ := F2.2.1 rfl
        obtain ⟨X, rfl, hXH, hX⟩ := F3.2.2 rfl
        have HASK := Lib.hid (asking_of (p1 := p1) (p2 := p2) (p3 := p3) hX hblk hD hgH hgB hXH hG.1 HA.out HZ.out F1.out)
        have hset : Below (w.heap.size + 2) w0 (((((w'.setCell ⟨X, 0, none⟩ (.slice (some ⟨B, 0, none⟩) 5 5)).setCell ⟨X, 1, none⟩ (.slice (some ⟨B + 1, 0, none⟩) 5 5)).setCell ⟨X, 2, none⟩ (.slice (some ⟨B + 1 + 1, 0, none⟩) 5 5)).setCell ⟨X, 3, none⟩ (.slice (some ⟨B + 1 + 1 + 1, 0, none⟩) 5 5)).setCell ⟨X, 4, none⟩ (.slice (some ⟨B + 1 + 1 + 1 + 1, 0, none⟩) 5 5)) := ((((hG.1.setCell (p := ⟨X, 0, none⟩) hXH _).setCell (p := ⟨X, 1, none⟩) hXH _).setCell (p := ⟨X, 2, none⟩) hXH _).setCell (p := ⟨X, 3, none⟩) hXH _).setCell (p := ⟨X, 4, none⟩) hXH _
        have HBL := Lib.hid (HB.out.trans (hset.mono (by omega)))
        have HSET := Lib.hid hset
        subst ha
        simp only [List.foldl_cons, List.foldl_nil, Act.put, List.setIfInBounds_toArray, List.set_cons_zero, List.set_cons_succ]
        have hl1 := lt_of_block hX
        have q0 : w'.cell? ⟨X, 0, none⟩ = some (.slice none 0 0) := blk_cell hX 0
        have q1 : w'.cell? ⟨X, 1, none⟩ = some (.slice none 0 0) := blk_cell hX 1
        have q2 : w'.cell? ⟨X, 2, none⟩ = some (.slice none 0 0) := blk_cell hX 2
        have q3 : w'.cell? ⟨X, 3, none⟩ = some (.slice none 0 0) := blk_cell hX 3
        have q4 : w'.cell? ⟨X, 4, none⟩ = some (.slice none 0 0) := blk_cell hX 4
        have qf0 := blk_frozen hX 0
        have qf1 := blk_frozen hX 1
        have qf2 := blk_frozen hX 2
        have qf3 := blk_frozen hX 3
        have qf4 := blk_frozen hX 4
        clear hX hblk hD hgH hgB hXH hG hset F2 F3 g1 g2 g3 hag hdf hsz hsz2 hF hG0
        refine wpAnyL_one (i := 9) rfl (by kernel_rfl) ?_
        intro K hK
        have HK := Lib.hid hK
        clear hK
        go_simp
        refine HK.out.out _ _ (HKP.out _ HSET.out) (fun _ => ?_)
        clear HK K
        refine wpAnyL_done (by kernel_rfl) ?_
        try simp only [Act.put]
        go_wp2_with fail
        go_meet
        exact ⟨g, B, base, P, Q, X, n, n_tA, n_sA, n_tc, n_sc, c, c_gA, c_bA, c_hA, c_gc, c_bc, c_hc, fr, ga, ds, rfl, HASK, HBL⟩
    case rest =>
    obtain ⟨g, B, base, P, Q, X, n, n_tA, n_sA, n_tc, n_sc, c, c_gA, c_bA, c_hA, c_gc, c_bc, c_hc, fr, ga, ds, rfl, HQ, HW4⟩ := hcut
    obtain ⟨w4, rfl⟩ : ∃ w4, w4 = wc := ⟨_, rfl⟩
    clear HA HZ HX HKP HB1 HB F1 HSz1 HS
    go_wp2_with fail
    go_loopw [14] (fun iv wr => ∃ k : Nat, k ≤ 5 ∧ iv = .int .i64 k ∧ Hid (Asking g B X base P Q (w.heap.size + 2) wr a a_tA a_sA a_tc a_sc z z_gA z_bA z_hA z_gc z_bc z_hc n n_tA n_sA n_tc n_sc c c_gA c_bA c_hA c_gc c_bc c_hc p1 p2 p3 fr ga ds) ∧ Hid (Below w.heap.size w wr)) (fun i _ => 5 - (intOf i).toNat)
    case atStart => exact ⟨0, by omega, rfl, HQ.out, HW4.out⟩
    case round =>
      obtain ⟨k, hk, rfl, hQ, hW⟩ := hrel
      have q0 := blk_cell hQ.out.ask 0
      clear HQ HW4
      by_cases hk5 : k < 5
      · have hki : (k : Int) < 5 := by omega
        obtain ⟨m, m_tA, m_sA, m_tc, m_sc, d, d_gA, d_bA, d_hA, d_gc, d_bc, d_hc, x1, x2, x3, hkp, hmr, hdr, hfew⟩ := hQ.out.pick k hk5
        have HKP := Lib.hid hkp
        have HMR := Lib.hid hmr
        have HDR := Lib.hid hdr
        have HFW := Lib.hid hfew
        have HBG := Lib.hid hQ.out.D.bag
        obtain ⟨⟨q0, q1, q2, q3, q4⟩, ⟨b0, b1, b2⟩, ⟨c0, c1, c2, c3, c4, c5⟩, f0, g0, t0⟩ := hkp _ (Kb.refl HBG.out)
        clear hkp hmr hdr hfew
        go_wp2_with fail
        go_cut [15, 16] (fun v1 v2 wx => ∃ (P2 Q2 : Nat) (e_tA e_sA : Option Addr) (e_tc e_sc : Nat) (f_gA f_bA f_hA : Option Addr) (f_gc f_bc f_hc : Nat), v1 = .pointer (some ⟨P2, 0, none⟩) ∧ v2 = .pointer (some ⟨Q2, 0, none⟩) ∧ Hid (CopyAt g wr wx P2 Q2 m e_tA e_sA e_tc e_sc d f_gA f_bA f_hA f_gc f_bc f_hc))
        case first =>
          have hS := HKP.out _ (Kb.refl HBG.out).drew
          refine wp_region_L (by kernel_rfl) (fun W => ((W.cell? ⟨X, 0, none⟩ = some (.slice (some ⟨B, 0, none⟩) 5 5) ∧ W.cell? ⟨X, 1, none⟩ = some (.slice (some ⟨B + 1, 0, none⟩) 5 5) ∧ W.cell? ⟨X, 2, none⟩ = some (.slice (some ⟨B + 1 + 1, 0, none⟩) 5 5) ∧ W.cell? ⟨X, 3, none⟩ = some (.slice (some ⟨B + 1 + 1 + 1, 0, none⟩) 5 5) ∧ W.cell? ⟨X, 4, none⟩ = some (.slice (some ⟨B + 1 + 1 + 1 + 1, 0, none⟩) 5 5)) ∧ (W.cell? ⟨B, k * 3, none⟩ = some (.int .i64 m.stops) ∧ W.cell? ⟨B, k * 3 + 1, none⟩ = some (.slice m_tA m.tracks.length m_tc) ∧ W.cell? ⟨B, k * 3 + 2, none⟩ = some (.slice m_sA m.shops.length m_sc)) ∧ (W.cell? ⟨B + 1, k * 6, none⟩ = some (.slice d_gA d.gauges.length d_gc) ∧ W.cell? ⟨B + 1, k * 6 + 1, none⟩ = some (.int .i64 d.size) ∧ W.cell? ⟨B + 1, k * 6 + 2, none⟩ = some (.int .i64 d.load) ∧ W.cell? ⟨B + 1, k * 6 + 3, none⟩ = some (.slice d_bA d.brakes.length d_bc) ∧ W.cell? ⟨B + 1, k * 6 + 4, none⟩ = some (.slice d_hA d.heats.length d_hc) ∧ W.cell? ⟨B + 1, k * 6 + 5, none⟩ = some (.bool d.hooks)) ∧ (W.cell? ⟨B + 1 + 1, k, none⟩ = some (.int .i64 x1) ∧ W.cell? ⟨B + 1 + 1 + 1, k, none⟩ = some (.int .i64 x2) ∧ W.cell? ⟨B + 1 + 1 + 1 + 1, k, none⟩ = some (.int .i64 x3)))) [] ?_
          refine wpAnyL_take (i := 0) (v := ?v0) rfl (by kernel_rfl) (by kernel_rfl) (by kernel_rfl) (by kernel_rfl) (by rfl) (fun _ _ _ h => h) hS (Or.inl ⟨by rfl, ?hy0⟩) ?hr0
          case hy0 => (intro w hSw; (try dsimp only at hSw); go_simp; (try rfl))
          simp only [List.getElem_toArray, List.getElem_cons_zero, Act.put, List.setIfInBounds_toArray, List.set_cons_zero, List.set_cons_succ]
          refine wpAnyL_take (i := 1) (v := ?v1) rfl (by kernel_rfl) (by kernel_rfl) (by kernel_rfl) (by kernel_rfl) (by rfl) (fun _ _ _ h => h) hS (Or.inl ⟨by rfl, ?hy1⟩) ?hr1
          case hy1 => (intro w hSw; (try dsimp only at hSw); go_simp; (try rfl))
          simp only [List.getElem_toArray, List.getElem_cons_succ, List.getElem_cons_zero, Act.put, List.setIfInBounds_toArray, List.set_cons_zero, List.set_cons_succ]
          refine wpAnyL_take (i := 2) (v := ?v2) rfl (by kernel_rfl) (by kernel_rfl) (by kernel_rfl) (by kernel_rfl) (by rfl) (fun _ _ _ h => h) hS (Or.inl ⟨by rfl, ?hy2⟩) ?hr2
          case hy2 => (intro w hSw; (try dsimp only at hSw); go_simp; (try rfl))
          simp only [List.getElem_toArray, List.getElem_cons_succ, List.getElem_cons_zero, Act.put, List.setIfInBounds_toArray, List.set_cons_zero, List.set_cons_succ]
          refine wpAnyL_take (i := 3) (v := ?v3) rfl (by kernel_rfl) (by kernel_rfl) (by kernel_rfl) (by kernel_rfl) (by rfl) (fun _ _ _ h => h) hS (Or.inl ⟨by rfl, ?hy3⟩) ?hr3
          case hy3 => (intro w hSw; (try dsimp only at hSw); go_simp; (try rfl))
          simp only [List.getElem_toArray, List.getElem_cons_succ, List.getElem_cons_zero, Act.put, List.setIfInBounds_toArray, List.set_cons_zero, List.set_cons_succ]
          refine wpAnyL_take (i := 4) (v := ?v4) rfl (by kernel_rfl) (by kernel_rfl) (by kernel_rfl) (by kernel_rfl) (by rfl) (fun _ _ _ h => h) hS (Or.inl ⟨by rfl, ?hy4⟩) ?hr4
          case hy4 => (intro w hSw; (try dsimp only at hSw); go_simp; (try rfl))
          simp only [List.getElem_toArray, List.getElem_cons_succ, List.getElem_cons_zero, Act.put, List.setIfInBounds_toArray, List.set_cons_zero, List.set_cons_succ]
          refine wpAnyL_take (i := 6) (v := ?v6) rfl (by kernel_rfl) (by kernel_rfl) (by kernel_rfl) (by kernel_rfl) (by rfl) (fun _ _ _ h => h) hS (Or.inl ⟨by rfl, ?hy6⟩) ?hr6
          case hy6 => (intro w hSw; (try dsimp only at hSw); go_simp; (try rfl))
          simp only [List.getElem_toArray, List.getElem_cons_succ, List.getElem_cons_zero, Act.put, List.setIfInBounds_toArray, List.set_cons_zero, List.set_cons_succ]
          refine wpAnyL_take (i := 7) (v := ?v7) rfl (by kernel_rfl) (by kernel_rfl) (by kernel_rfl) (by kernel_rfl) (by rfl) (fun _ _ _ h => h) hS (Or.inl ⟨by rfl, ?hy7⟩) ?hr7
          case hy7 => (intro w hSw; (try dsimp only at hSw); go_simp; (try rfl))
          simp only [List.getElem_toArray, List.getElem_cons_succ, List.getElem_cons_zero, Act.put, List.setIfInBounds_toArray, List.set_cons_zero, List.set_cons_succ]
          refine wpAnyL_take (i := 8) (v := ?v8) rfl (by kernel_rfl) (by kernel_rfl) (by kernel_rfl) (by kernel_rfl) (by rfl) (fun _ _ _ h => h) hS (Or.inl ⟨by rfl, ?hy8⟩) ?hr8
          case hy8 => (intro w hSw; (try dsimp only at hSw); go_simp; (try rfl))
          simp only [List.getElem_toArray, List.getElem_cons_succ, List.getElem_cons_zero, Act.put, List.setIfInBounds_toArray, List.set_cons_zero, List.set_cons_succ]
          refine wpAnyL_take (i := 9) (v := ?v9) rfl (by kernel_rfl) (by kernel_rfl) (by kernel_rfl) (by kernel_rfl) (by rfl) (fun _ _ _ h => h) hS (Or.inl ⟨by rfl, ?hy9⟩) ?hr9
          case hy9 => (intro w hSw; (try dsimp only at hSw); go_simp; (try rfl))
          simp only [List.getElem_toArray, List.getElem_cons_succ, List.getElem_cons_zero, Act.put, List.setIfInBounds_toArray, List.set_cons_zero, List.set_cons_succ]
          refine wpAnyL_take (i := 10) (v := ?v10) rfl (by kernel_rfl) (by kernel_rfl) (by kernel_rfl) (by kernel_rfl) (by rfl) (fun _ _ _ h => h) hS (Or.inl ⟨by rfl, ?hy10⟩) ?hr10
          case hy10 => (intro w hSw; (try dsimp only at hSw); go_simp; (try rfl))
          simp only [List.getElem_toArray, List.getElem_cons_succ, List.getElem_cons_zero, Act.put, List.setIfInBounds_toArray, List.set_cons_zero, List.set_cons_succ]
          clear hS q0 q1 q2 q3 q4 b0 b1 b2 c0 c1 c2 c3 c4 c5 f0 g0 t0
          have hG0 : Kb g wr wr.drew := (Kb.refl HBG.out).drew
          refine wpAnyL_float [⟨5, 45, [], []⟩, ⟨11, 51, [], []⟩, ⟨12, 15, [], []⟩, ⟨13, 16, [], []⟩] (CopyF wr m d) (fun W => Kb g wr W) (fun _ W W' => Below W.heap.size W W') _ (target := #[true, true, true, true, true, true, true, true, true, true, true, true, true, true, false, false]) (fuel0 := 2) (by decide) (by decide) (by simp) (fun W k => HKP.out W k)
            (fun _ _ _ _ _ _ _ _ hb h => h.step hb) ?hop ?hfin 4 [5, 11, 12, 13] _ _ _ (by kernel_rfl) (by decide) (fun _ _ => rfl) rfl rfl hG0 (by intro f hf; simp only [List.mem_cons, List.not_mem_nil, or_false] at hf; rcases hf with rfl | rfl | rfl | rfl <;> (intro h; simp at h))
          case hop =>
            intro e he a' w' K' hag hdf hG _ hK
            clear hdf
            simp only [List.mem_cons, List.not_mem_nil, or_false] at he
            rcases he with rfl | rfl | rfl | rfl
            · have h1 := getD_tmp ((hag 44 (by simp)).trans (show _ = some (.agg #[.int .i64 m.stops, .slice m_tA m.tracks.length m_tc, .slice m_sA m.shops.length m_sc]) from rfl))
              refine wpOp_step rfl ?_
              intro K2 hK2
              have HK2 := Lib.hid hK2
              clear hK2 hag
              go_simp
              refine (copyNet_any m m_tA m_sA m_tc m_sc _ (HMR.out _ hG) (by have := HFW.out.lt; omega) (by have := HFW.out.ls; omega)).mono ?_
              rintro e w5 ⟨e_tA, e_sA, e_tc, e_sc, rfl, hot, hoi, hb5⟩
              exact HK2.out _ _ (hK.out _ _ hb5 (hG.step hb5 hG.size HBG.out.lt) (CopyF.net ⟨e_tA, e_sA, e_tc, e_sc, rfl, row_lower hot hG.size, row_lower hoi hG.size⟩))
            · have h1 := getD_tmp ((hag 50 (by simp)).trans (show _ = some (.agg #[.slice d_gA d.gauges.length d_gc, .int .i64 d.size, .int .i64 d.load, .slice d_bA d.brakes.length d_bc, .slice d_hA d.heats.length d_hc, .bool d.hooks]) from rfl))
              refine wpOp_step rfl ?_
              intro K2 hK2
              have HK2 := Lib.hid hK2
              clear hK2 hag
              go_simp
              refine (copyCoach_own d d_gA d_bA d_hA d_gc d_bc d_hc _ (HDR.out _ hG) (by have := HFW.out.lg; omega) (by have := HFW.out.lb; omega) (by have := HFW.out.lh; omega)).mono ?_
              rintro e w6 ⟨f_gA, f_bA, f_hA, f_gc, f_bc, f_hc, rfl, o1, o2, o3, hb6⟩
              exact HK2.out _ _ (hK.out _ _ hb6 (hG.step hb6 hG.size HBG.out.lt) (CopyF.car ⟨f_gA, f_bA, f_hA, f_gc, f_bc, f_hc, rfl, row_lower o1 hG.size, row_lower o2 hG.size, row_lower o3 hG.size⟩))
            · refine wpOp_step rfl ?_
              intro K2 hK2
              have HK2 := Lib.hid hK2
              clear hK2 hag
              go_simp
              exact HK2.out _ _ (hK.out _ _ ((Below.refl _ _).alloc (Nat.le_refl _) _) (hG.alloc _) (CopyF.box ⟨_, rfl, hG.size, heap_alloc_new _ _⟩))
            · refine wpOp_step rfl ?_
              intro K2 hK2
              have HK2 := Lib.hid hK2
              clear hK2 hag
              go_simp
              exact HK2.out _ _ (hK.out _ _ ((Below.refl _ _).alloc (Nat.le_refl _) _) (hG.alloc _) (CopyF.box2 ⟨_, rfl, hG.size, heap_alloc_new _ _⟩))
          case hfin =>
            intro a' w' hag hdf hsz hG hF
            obtain ⟨v1, g1, F1⟩ := hF ⟨5, 45, [], []⟩ (by simp) (by simp)
            obtain ⟨v2, g2, F2⟩ := hF ⟨11, 51, [], []⟩ (by simp) (by simp)
            obtain ⟨v3, g3, F3⟩ := hF ⟨12, 15, [], []⟩ (by simp) (by simp)
            obtain ⟨v4, g4, F4⟩ := hF ⟨13, 16, [], []⟩ (by simp) (by simp)
            have ha := act_of [(45, v1), (51, v2), (15, v3), (16, v4)] hdf hsz (fun s hs => hag s (by simpa using hs)) (show ([45, 51, 15, 16] : List Nat).Nodup by decide) (fun x hx => by simp only [List.mem_cons, List.not_mem_nil, or_false] at hx; rcases hx with rfl | rfl | rfl | rfl <;> first | exact g1 | exact g2 | exact g3 | exact g4)
            obtain ⟨e_tA, e_sA, e_tc, e_sc, rfl, hot, hoi⟩ := F1.1 rfl
            obtain ⟨f_gA, f_bA, f_hA, f_gc, f_bc, f_hc, rfl, o1, o2, o3⟩ := F2.2.1 rfl
            obtain ⟨P2, rfl, hP2, hP⟩ := F3.2.2.1 rfl
            obtain ⟨Q2, rfl, hQ2, hQ⟩ := F4.2.2.2 rfl
            have HC := Lib.hid (copyAt_of (g := g) (w := wr) hP hQ hot hoi o1 o2 o3 hG HBG.out hP2 hQ2 HFW.out)
            subst ha
            simp only [List.foldl_cons, List.foldl_nil, Act.put, List.setIfInBounds_toArray, List.set_cons_zero, List.set_cons_succ]
            have hl1 := lt_of_block hP
            have hl2 := lt_of_block hQ
            have hne : P2 ≠ Q2 := fun e => by
              subst e
              rw [hP] at hQ
              exact absurd hQ (by simp [Z27o, Z30o])
            have hne' : Q2 ≠ P2 := Ne.symm hne
            have p0 : w'.cell? ⟨P2, 0, none⟩ = some (.int .i64 0) := blk_cell hP 0
            have p1 : w'.cell? ⟨P2, 1, none⟩ = some (.slice none 0 0) := blk_cell hP 1
            have p2 : w'.cell? ⟨P2, 2, none⟩ = some (.slice none 0 0) := blk_cell hP 2
            have pf0 := blk_frozen hP 0
            have pf1 := blk_frozen hP 1
            have pf2 := blk_frozen hP 2
            have r0 : w'.cell? ⟨Q2, 0, none⟩ = some (.slice none 0 0) := blk_cell hQ 0
            have r1 : w'.cell? ⟨Q2, 1, none⟩ = some (.int .i64 0) := blk_cell hQ 1
            have r2 : w'.cell? ⟨Q2, 2, none⟩ = some (.int .i64 0) := blk_cell hQ 2
            have r3 : w'.cell? ⟨Q2, 3, none⟩ = some (.slice none 0 0) := blk_cell hQ 3
            have r4 : w'.cell? ⟨Q2, 4, none⟩ = some (.slice none 0 0) := blk_cell hQ 4
            have r5 : w'.cell? ⟨Q2, 5, none⟩ = some (.bool false) := blk_cell hQ 5
            have rf0 := blk_frozen hQ 0
            have rf1 := blk_frozen hQ 1
            have rf2 := blk_frozen hQ 2
            have rf3 := blk_frozen hQ 3
            have rf4 := blk_frozen hQ 4
            have rf5 := blk_frozen hQ 5
            have HGK := Lib.hid hG
            have HPQ := Lib.hid (And.intro hP2 hQ2)
            clear hP hQ hot hoi o1 o2 o3 hG hP2 hQ2 F1 F2 F3 F4 g1 g2 g3 g4 hag hdf hsz hF hG0
            refine wpAnyL_one (i := 14) rfl (by kernel_rfl) ?_
            intro K hK
            have HK := Lib.hid hK
            clear hK
            go_simp
            refine HK.out.out _ _ (HKP.out _ (((HGK.out.setCell HPQ.out.1 HBG.out.lt _).setCell HPQ.out.1 HBG.out.lt _).setCell HPQ.out.1 HBG.out.lt _)) (fun _ => ?_)
            clear HK K
            refine wpAnyL_one (i := 15) rfl (by kernel_rfl) ?_
            intro K hK
            have HK := Lib.hid hK
            clear hK
            go_simp
            refine HK.out.out _ _ (HKP.out _ (((((((((HGK.out.setCell HPQ.out.1 HBG.out.lt _).setCell HPQ.out.1 HBG.out.lt _).setCell HPQ.out.1 HBG.out.lt _).setCell HPQ.out.2 HBG.out.lt _).setCell HPQ.out.2 HBG.out.lt _).setCell HPQ.out.2 HBG.out.lt _).setCell HPQ.out.2 HBG.out.lt _).setCell HPQ.out.2 HBG.out.lt _).setCell HPQ.out.2 HBG.out.lt _)) (fun _ => ?_)
            clear HK K
            refine wpAnyL_done (by kernel_rfl) ?_
            try simp only [Act.put]
            go_wp2_with fail
            go_meet
            exact ⟨P2, Q2, e_tA, e_sA, e_tc, e_sc, f_gA, f_bA, f_hA, f_gc, f_bc, f_hc, rfl, rfl, HC⟩
        case rest =>
        obtain ⟨P2, Q2, e_tA, e_sA, e_tc, e_sc, f_gA, f_bA, f_hA, f_gc, f_bc, f_hc, rfl, rfl, hC⟩ := hcut
        obtain ⟨w8, rfl⟩ : ∃ w8, w8 = wc := ⟨_, rfl⟩
        clear q0 q1 q2 q3 q4 b0 b1 b2 c0 c1 c2 c3 c4 c5 f0 g0 t0
        have HC0 := hC
        have LL0 : Hid True := trivial
        have hl1 := lacks_len m d x1 x2 x3
        clear hC
        have HD1 := Lib.hid (HC0.out.step (Kb.refl HC0.out.kb.bag).drew)
        have hS := And.intro (HKP.out _ HD1.out.kb) (HD1.out.cells _ (Kb.refl HD1.out.kb.bag))
        go_wp2_with fail
        go_region_held3 (fun W => ((W.cell? ⟨X, 0, none⟩ = some (.slice (some ⟨B, 0, none⟩) 5 5) ∧ W.cell? ⟨X, 1, none⟩ = some (.slice (some ⟨B + 1, 0, none⟩) 5 5) ∧ W.cell? ⟨X, 2, none⟩ = some (.slice (some ⟨B + 1 + 1, 0, none⟩) 5 5) ∧ W.cell? ⟨X, 3, none⟩ = some (.slice (some ⟨B + 1 + 1 + 1, 0, none⟩) 5 5) ∧ W.cell? ⟨X, 4, none⟩ = some (.slice (some ⟨B + 1 + 1 + 1 + 1, 0, none⟩) 5 5)) ∧ (W.cell? ⟨B, k * 3, none⟩ = some (.int .i64 m.stops) ∧ W.cell? ⟨B, k * 3 + 1, none⟩ = some (.slice m_tA m.tracks.length m_tc) ∧ W.cell? ⟨B, k * 3 + 2, none⟩ = some (.slice m_sA m.shops.length m_sc)) ∧ (W.cell? ⟨B + 1, k * 6, none⟩ = some (.slice d_gA d.gauges.length d_gc) ∧ W.cell? ⟨B + 1, k * 6 + 1, none⟩ = some (.int .i64 d.size) ∧ W.cell? ⟨B + 1, k * 6 + 2, none⟩ = some (.int .i64 d.load) ∧ W.cell? ⟨B + 1, k * 6 + 3, none⟩ = some (.slice d_bA d.brakes.length d_bc) ∧ W.cell? ⟨B + 1, k * 6 + 4, none⟩ = some (.slice d_hA d.heats.length d_hc) ∧ W.cell? ⟨B + 1, k * 6 + 5, none⟩ = some (.bool d.hooks)) ∧ (W.cell? ⟨B + 1 + 1, k, none⟩ = some (.int .i64 x1) ∧ W.cell? ⟨B + 1 + 1 + 1, k, none⟩ = some (.int .i64 x2) ∧ W.cell? ⟨B + 1 + 1 + 1 + 1, k, none⟩ = some (.int .i64 x3))) ∧ ((W.cell? ⟨P2, 0, none⟩ = some (.int .i64 m.stops) ∧ W.cell? ⟨P2, 1, none⟩ = some (.slice e_tA m.tracks.length e_tc) ∧ W.cell? ⟨P2, 2, none⟩ = some (.slice e_sA m.shops.length e_sc)) ∧ (W.cell? ⟨Q2, 0, none⟩ = some (.slice f_gA d.gauges.length f_gc) ∧ W.cell? ⟨Q2, 1, none⟩ = some (.int .i64 d.size) ∧ W.cell? ⟨Q2, 2, none⟩ = some (.int .i64 d.load) ∧ W.cell? ⟨Q2, 3, none⟩ = some (.slice f_bA d.brakes.length f_bc) ∧ W.cell? ⟨Q2, 4, none⟩ = some (.slice f_hA d.heats.length f_hc) ∧ W.cell? ⟨Q2, 5, none⟩ = some (.bool d.hooks))))
          (first | (with_reducible exact hS) | go_keep)
          (first
            | (go_at_call 13; refine (lacks_any m e_tA e_sA e_tc e_sc d f_gA f_bA f_hA f_gc f_bc f_hc x1 x2 x3 _ HD1.out.nreads HD1.out.creads).mono ?_; rintro e u1 hq; obtain ⟨A1, c1, rfl, hI1, hb⟩ := listPost_list hq; have kk := kb_of_below HD1.out.kb.bag hb; have HC1 := Lib.hid (HD1.out.step kk); have LL1 : Hid (Ints u1 u1.heap.size A1 (listOf (Pl.asked m d x1 x2 x3) (Pl.lacks m d x1 x2 x3)) ∧ True) := ⟨hI1, trivial⟩; have hS := And.intro (HKP.out _ HC1.out.kb) (HC1.out.cells _ (Kb.refl HC1.out.kb.bag)); clear kk hb))
        clear hS HD1 HC0 LL0
        have HD2 := Lib.hid (HC1.out.step (Kb.refl HC1.out.kb.bag).drew)
        have hS := And.intro (HKP.out _ HD2.out.kb) (HD2.out.cells _ (Kb.refl HD2.out.kb.bag))
        go_wp2_with fail
        go_region_held3 (fun W => ((W.cell? ⟨X, 0, none⟩ = some (.slice (some ⟨B, 0, none⟩) 5 5) ∧ W.cell? ⟨X, 1, none⟩ = some (.slice (some ⟨B + 1, 0, none⟩) 5 5) ∧ W.cell? ⟨X, 2, none⟩ = some (.slice (some ⟨B + 1 + 1, 0, none⟩) 5 5) ∧ W.cell? ⟨X, 3, none⟩ = some (.slice (some ⟨B + 1 + 1 + 1, 0, none⟩) 5 5) ∧ W.cell? ⟨X, 4, none⟩ = some (.slice (some ⟨B + 1 + 1 + 1 + 1, 0, none⟩) 5 5)) ∧ (W.cell? ⟨B, k * 3, none⟩ = some (.int .i64 m.stops) ∧ W.cell? ⟨B, k * 3 + 1, none⟩ = some (.slice m_tA m.tracks.length m_tc) ∧ W.cell? ⟨B, k * 3 + 2, none⟩ = some (.slice m_sA m.shops.length m_sc)) ∧ (W.cell? ⟨B + 1, k * 6, none⟩ = some (.slice d_gA d.gauges.length d_gc) ∧ W.cell? ⟨B + 1, k * 6 + 1, none⟩ = some (.int .i64 d.size) ∧ W.cell? ⟨B + 1, k * 6 + 2, none⟩ = some (.int .i64 d.load) ∧ W.cell? ⟨B + 1, k * 6 + 3, none⟩ = some (.slice d_bA d.brakes.length d_bc) ∧ W.cell? ⟨B + 1, k * 6 + 4, none⟩ = some (.slice d_hA d.heats.length d_hc) ∧ W.cell? ⟨B + 1, k * 6 + 5, none⟩ = some (.bool d.hooks)) ∧ (W.cell? ⟨B + 1 + 1, k, none⟩ = some (.int .i64 x1) ∧ W.cell? ⟨B + 1 + 1 + 1, k, none⟩ = some (.int .i64 x2) ∧ W.cell? ⟨B + 1 + 1 + 1 + 1, k, none⟩ = some (.int .i64 x3))) ∧ ((W.cell? ⟨P2, 0, none⟩ = some (.int .i64 m.stops) ∧ W.cell? ⟨P2, 1, none⟩ = some (.slice e_tA m.tracks.length e_tc) ∧ W.cell? ⟨P2, 2, none⟩ = some (.slice e_sA m.shops.length e_sc)) ∧ (W.cell? ⟨Q2, 0, none⟩ = some (.slice f_gA d.gauges.length f_gc) ∧ W.cell? ⟨Q2, 1, none⟩ = some (.int .i64 d.size) ∧ W.cell? ⟨Q2, 2, none⟩ = some (.int .i64 d.load) ∧ W.cell? ⟨Q2, 3, none⟩ = some (.slice f_bA d.brakes.length f_bc) ∧ W.cell? ⟨Q2, 4, none⟩ = some (.slice f_hA d.heats.length f_hc) ∧ W.cell? ⟨Q2, 5, none⟩ = some (.bool d.hooks))))
          (first | (with_reducible exact hS) | go_keep)
          (first
            | (go_at_call 14; refine (rlacks_any m m_tA m_sA m_tc m_sc d d_gA d_bA d_hA d_gc d_bc d_hc x1 x2 x3 _ (HMR.out _ HD2.out.kb) (HDR.out _ HD2.out.kb)).mono ?_; rintro e u2 hq; obtain ⟨A2, c2, rfl, hI2, hb⟩ := listPost_list hq; have kk := kb_of_below HD2.out.kb.bag hb; have HC2 := Lib.hid (HD2.out.step kk); have LL2 : Hid (Ints u2 u2.heap.size A1 (listOf (Pl.asked m d x1 x2 x3) (Pl.lacks m d x1 x2 x3)) ∧ Ints u2 u2.heap.size A2 (listOf (Pl.asked m d x1 x2 x3) (Pl.lacks m d x1 x2 x3)) ∧ True) := ⟨ints_step (w := u1.drew) (LL1.out.1).drew hb, hI2, trivial⟩; have hS := And.intro (HKP.out _ HC2.out.kb) (HC2.out.cells _ (Kb.refl HC2.out.kb.bag)); clear kk hb))
        clear hS HD2 HC1 LL1
        obtain ⟨⟨⟨q0, q1, q2, q3, q4⟩, -, -, -⟩, ⟨p0, p1, p2⟩, r0, r1, r2, r3, r4, r5⟩ := And.intro (HKP.out _ HC2.out.kb) (HC2.out.cells _ (Kb.refl HC2.out.kb.bag))
        have HSZ : Hid (B + 1 < wr.heap.size) := lt_of_block hQ.out.cb
        have tok0 : True := trivial
        go_wp2_with (first
          | (go_at_call 15; have _t := tok0; refine (equal_same A1 A2 c1 c2 (listOf (Pl.asked m d x1 x2 x3) (Pl.lacks m d x1 x2 x3)) _ LL2.out.1 (LL2.out.2.1) hl1).mono ?_; rintro e u3 ⟨rfl, hb⟩; have kk := kb_of_below HC2.out.kb.bag hb; have HC3 := Lib.hid (HC2.out.step kk); have LL3 : Hid (Ints u3 u3.heap.size A1 (listOf (Pl.asked m d x1 x2 x3) (Pl.lacks m d x1 x2 x3)) ∧ Ints u3 u3.heap.size A2 (listOf (Pl.asked m d x1 x2 x3) (Pl.lacks m d x1 x2 x3)) ∧ True) := ⟨ints_step (LL2.out.1) hb, ints_step (LL2.out.2.1) hb, trivial⟩; clear q0 q1 q2 q3 q4 p0 p1 p2 r0 r1 r2 r3 r4 r5; obtain ⟨⟨⟨q0, q1, q2, q3, q4⟩, -, -, -⟩, ⟨p0, p1, p2⟩, r0, r1, r2, r3, r4, r5⟩ := And.intro (HKP.out _ HC3.out.kb) (HC3.out.cells _ (Kb.refl HC3.out.kb.bag)); clear kk hb _t tok0)
          | (go_at_call 16; refine (same_any m e_tA e_sA e_tc e_sc d f_gA f_bA f_hA f_gc f_bc f_hc m_tA m_sA m_tc m_sc d_gA d_bA d_hA d_gc d_bc d_hc B k _ HC3.out.nreads (HMR.out _ HC3.out.kb) HC3.out.creads (HDR.out _ HC3.out.kb) (by have := HFW.out.lt; omega) (by have := HFW.out.ls; omega) (by have := HFW.out.lg; omega) (by have := HFW.out.lb; omega) (by have := HFW.out.lh; omega) hk5 (by have := HC3.out.kb.size; have := HSZ.out; omega) (HKP.out _ HC3.out.kb).2.1 (HKP.out _ HC3.out.kb).2.2.1).mono ?_; rintro e u4 ⟨rfl, hb⟩; have kk := kb_of_below HC3.out.kb.bag hb; have HC4 := Lib.hid (HC3.out.step kk); clear q0 q1 q2 q3 q4 p0 p1 p2 r0 r1 r2 r3 r4 r5; clear kk hb))
        have HQn := Lib.hid (hQ.out.kb HC4.out.kb)
        have HWn := Lib.hid (hW.out.trans (HC4.out.kb.below (B := w.heap.size) (by have := hQ.out.bg; omega) HC4.out.gl))
        go_roundw
        case rel => exact ⟨k + 1, by omega, by go_num, HQn, HWn⟩
        case measure => simp [intOf]; omega
      · obtain rfl : k = 5 := by omega
        have HW5 := Lib.hid hW.out
        clear hW hQ
        go_wp2_with fail
        refine (rolling_any wr).mono ?_
        rintro e w5 ⟨rfl, hb5⟩
        have HW6 := Lib.hid (HW5.out.trans (hb5.mono HW5.out.size))
        clear hb5
        go_wp2_with fail
        go_ret
        exact ⟨rfl, HW6.out⟩
  · clear hh
    go_enter Tryz.func3, Tryz.ntmps3
    go_wp2_with fail
    generalize ((w.alloc (.cells #[.int .i64 a.stops, .slice a_tA a.tracks.length a_tc, .slice a_sA a.shops.length a_sc] 25)).alloc (.cells #[.slice z_gA z.gauges.length z_gc, .int .i64 z.size, .int .i64 z.load, .slice z_bA z.brakes.length z_bc, .slice z_hA z.heats.length z_hc, .bool z.hooks] 27)) = w0 at *
    go_wp2_with fail
    refine (large_any a a_tA a_sA a_tc a_sc z z_gA z_bA z_hA z_gc z_bc z_hc w0).mono ?_
    rintro e w1 ⟨rfl, hb1⟩
    rw [HS.out] at hb1
    rw [hL]
    have HB1 := Lib.hid hb1
    have HSz1 : Hid (w.heap.size + 2 ≤ w1.heap.size) := HS.out ▸ hb1.size
    clear hb1 hL
    go_wp2_with fail
    refine (rolling_any w1).mono ?_
    rintro e w2 ⟨rfl, hb2⟩
    have HB2 := Lib.hid (HB1.out.trans (hb2.mono HSz1.out))
    clear hb2
    go_wp2_with fail
    go_ret
    exact ⟨rfl, HB.out.trans (HB2.out.mono (by omega))⟩
end Go.Proofs.YtpbjpochjagicaaGreat
