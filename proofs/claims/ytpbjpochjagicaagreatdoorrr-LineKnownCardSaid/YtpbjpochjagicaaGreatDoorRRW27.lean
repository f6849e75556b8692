/- Walks: Lacks. -/
import Derived.Test.YtpbjpochjagicaaGreatDoorRRW25
import Derived.Test.YtpbjpochjagicaaGreatDoorRRW23
import Derived.Maps.AppendAt
namespace Go.Proofs.YtpbjpochjagicaaGreatDoorRR
open Go.RowKit Go.Shelf
attribute [local go_sem] Oper.semAt_some

theorem lack_enter (x q1 q2 q3 q4 : Value) (ws : World) : Sem.run Tryz.prog (callFunc 40 #[x, q1, q2, q3, q4]) ws = .ok (.enter 40 #[x, q1, q2, q3, q4]) ws := by kernel_rfl

theorem missing_length (c : Pl.Cch) : (Pl.missing c).length ≤ 10 := by
  rw [missPre_all, List.length_append]
  have := missPre_length c 3 (by omega)
  cases c.hooks <;> simp <;> omega
theorem missing_le (c : Pl.Cch) (x : Int) (h : x ∈ Pl.missing c) : x ≤ 30 := by
  simp only [Pl.missing, List.mem_append, List.mem_filter, List.mem_map, List.mem_cons, List.not_mem_nil, or_false] at h
  rcases h with ((⟨h, _⟩ | ⟨y, ⟨h, _⟩, rfl⟩) | ⟨y, ⟨h, _⟩, rfl⟩) | h
  · omega
  · omega
  · omega
  · cases hh : c.hooks <;> simp [hh] at h <;> omega
theorem ints_putObj {w : World} {A : Option Addr} {l : List Int} {D : Nat} {o o' : Obj} (h : Ints w w.heap.size A l) (hD : w.heap[D]? = some o) (hc : o.isCells = false) : Ints (w.putObj D o') (w.putObj D o').heap.size A l := fun k x hx => by
  obtain ⟨b, off, h1, h2, h3⟩ := h k x hx
  exact ⟨b, off, h1, by simpa using h2, cell_kept h3 (grownBy_putObj' _ D o') (fun r e => by cases e; exact ⟨_, hD, hc⟩)⟩
theorem AskAt.below2 {wr w' : World} {b6 b12 b13 b9 X N : Nat} {c : Pl.Cch} {c_gA c_bA c_hA : Option Addr} {c_gc c_bc c_hc : Nat} {n : Pl.Nt} {n_tA n_sA : Option Addr} {n_tc n_sc : Nat} {fr g ds : Int} (h : AskAt wr b6 b12 b13 b9 X N c c_gA c_bA c_hA c_gc c_bc c_hc n n_tA n_sA n_tc n_sc fr g ds) {B : Nat} (hb : Below B wr w')
    (h6 : b6 < B) (h12 : b12 < B) (h13 : b13 < B) (h9 : b9 < B) (hX : X < B) (hN : N < B) : AskAt w' b6 b12 b13 b9 X N c c_gA c_bA c_hA c_gc c_bc c_hc n n_tA n_sA n_tc n_sc fr g ds :=
  ⟨blk_below h.coach hb h6, blk_below h.ptr hb h12, blk_below h.place hb h13, blk_below h.goal hb h9, h.car.below hb hX hN⟩

theorem KpM.putObj {n0 : Nat} {W : World} {l : Nat} {o o' : Obj} (hn : n0 ≤ l) (h : W.heap[l]? = some o) (hc : o.isCells = false) : KpM n0 W (W.putObj l o') := by
  refine ⟨(Below.refl n0 W).grown (grownBy_putObj' W l o') (by have := lt_of_block h; omega) (fun k e => by cases e; omega), fun k cs t m _ hk => ?_⟩
  rw [World.putObj_heap_other]
  · exact hk
  · intro e; subst e; rw [h] at hk; cases hk; cases hc
theorem KpM.appended {W w1 : World} {n0 B : Nat} {v v' : Value} {k : Nat} {xs : List Value} {tmp : Obj} (hv : Boxed W B 23 v) (hrow : W.ownsRow n0 3 1 v k xs) (hgrow : (W.alloc tmp).grownBy w1 v.ownBlock) :
    ∀ (k : Nat) (cs : Array Value) (t : TypeId) (m : Nat × Nat), (t = 28 ∨ t = 118) → W.heap[k]? = some (Obj.cells cs t m) → (w1.setCell ⟨B, 0, none⟩ v').heap[k]? = some (Obj.cells cs t m) := by
  intro k cs t m ht hk
  have h1 : k ≠ B := by
    intro e; subst e
    rw [show W.heap[k]? = _ from hv] at hk
    injection hk with hk; injection hk with _ hk _; subst hk
    rcases ht with ht | ht <;> cases ht
  have h2 : some k ≠ v.ownBlock := by
    rcases hrow.2 with ⟨rfl, _⟩ | ⟨g, cap, cur, rfl, _, hgb, _⟩
    · simp [Value.ownBlock]
    · intro e
      obtain rfl : k = g := by simpa [Value.ownBlock] using e
      rw [hgb] at hk
      injection hk with hk; injection hk with _ hk _; subst hk
      rcases ht with ht | ht <;> cases ht
  rw [Below.heap_setCell _ _ _ _ (by simpa using h1), hgrow.block k (by simp; have := lt_of_block hk; omega) h2, Below.heap_alloc _ _ _ (lt_of_block hk)]
  exact hk

set_option maxRecDepth 100000 in
set_option maxHeartbeats 4000000 in
theorem lacks_no (n : Pl.Nt) (n_tA n_sA : Option Addr) (n_tc n_sc : Nat) (c : Pl.Cch) (c_gA c_bA c_hA : Option Addr) (c_gc c_bc c_hc : Nat) (fr g ds : Int) (w : World) (F : Fence) (hall : ∀ f, F.fn f) (hro : F.round = none) (hconv : Hid (∀ m f args w R, Calls Tryz.prog f args w R → CallsIn F m Tryz.prog f args w R)) (hn : NReads w w.heap.size n n_tA n_sA n_tc n_sc) (hr : CReads w w.heap.size c c_gA c_bA c_hA c_gc c_bc c_hc) (hA : Pl.asked n c fr g ds ≠ 0) :
    CallsIn F 10 Tryz.prog 16 #[.agg #[.int .i64 n.stops, .slice n_tA n.tracks.length n_tc, .slice n_sA n.shops.length n_sc], .agg #[.slice c_gA c.gauges.length c_gc, .int .i64 c.size, .int .i64 c.load, .slice c_bA c.brakes.length c_bc, .slice c_hA c.heats.length c_hc, .bool c.hooks], .int .i64 fr, .int .i64 g, .int .i64 ds] w (ListPost (Pl.asked n c fr g ds) (Pl.lacks n c fr g ds) w) := by
  have hb3 : Below w.heap.size w (((w.alloc (.cells #[.int .i64 n.stops, .slice n_tA n.tracks.length n_tc, .slice n_sA n.shops.length n_sc] 25)).alloc (.cells #[.slice c_gA c.gauges.length c_gc, .int .i64 c.size, .int .i64 c.load, .slice c_bA c.brakes.length c_bc, .slice c_hA c.heats.length c_hc, .bool c.hooks] 28)).alloc (.cells #[.int .i64 ds] 3)) := (((Below.refl _ _).alloc (Nat.le_refl _) _).alloc (by simp) _).alloc (by simp; omega) _
  have hsz : (((w.alloc (.cells #[.int .i64 n.stops, .slice n_tA n.tracks.length n_tc, .slice n_sA n.shops.length n_sc] 25)).alloc (.cells #[.slice c_gA c.gauges.length c_gc, .int .i64 c.size, .int .i64 c.load, .slice c_bA c.brakes.length c_bc, .slice c_hA c.heats.length c_hc, .bool c.hooks] 28)).alloc (.cells #[.int .i64 ds] 3)).heap.size = w.heap.size + 1 + 1 + 1 := by simp
  have Hn := Lib.hid ((hn.below hb3).more (B' := w.heap.size + 1 + 1 + 1) (by omega))
  have Hr := Lib.hid ((hr.below hb3).more (B' := w.heap.size + 1 + 1 + 1) (by omega))
  have HB3 := Lib.hid hb3
  clear hb3 hn hr
  have HQ := Lib.hid (hconv.out 9 _ _ _ _ (asked_no n n_tA n_sA n_tc n_sc c c_gA c_bA c_hA c_gc c_bc c_hc fr g ds _ (by rw [hsz]; exact Hn.out) (by rw [hsz]; exact Hr.out) hA))
  have hb : (Pl.asked n c fr g ds != 0) = true := by rw [bne_iff_ne]; exact hA
  have HA : Hid (Pl.asked n c fr g ds ≠ 0) := hA
  clear hA
  have h1 : 1 ≤ 10 := by omega
  generalize Pl.lacks n c fr g ds = R
  refine callsIn_of_wp_marks Tryz.func16 rfl (hall 16) ?_ hro
  simp only [Tryz.ntmps16, List.size_toArray, List.length_cons, List.length_nil, Nat.reduceAdd, Nat.reduceSub, Array.replicate_succ, Array.replicate_zero, List.push_toArray, List.append_toArray, List.nil_append, List.cons_append]
  gi_wp2_with (gi_at_call 30; refine HQ.out.mono ?_; rintro e w1 ⟨rfl, hb1⟩; rw [hsz] at hb1; have HW := Lib.hid (HB3.out.trans (hb1.mono (by omega))); have hs := HW.out.size; clear hb1)
  exact ⟨_, results_tmp2 rfl _ _ _, listPost_asked HA.out ((HW.out.alloc hs _).alloc (by simp; omega) _)⟩

set_option maxRecDepth 100000 in
set_option maxHeartbeats 4000000 in
theorem lacks_yes (n : Pl.Nt) (n_tA n_sA : Option Addr) (n_tc n_sc : Nat) (c : Pl.Cch) (c_gA c_bA c_hA : Option Addr) (c_gc c_bc c_hc : Nat) (fr g ds : Int) (w : World) (F : Fence) (hall : ∀ f, F.fn f) (hro : F.round = none) (hconv : Hid (∀ m f args w R, Calls Tryz.prog f args w R → CallsIn F m Tryz.prog f args w R)) (hn : NReads w w.heap.size n n_tA n_sA n_tc n_sc) (hr : CReads w w.heap.size c c_gA c_bA c_hA c_gc c_bc c_hc) (hA : Pl.asked n c fr g ds = 0) :
    CallsIn F 10 Tryz.prog 16 #[.agg #[.int .i64 n.stops, .slice n_tA n.tracks.length n_tc, .slice n_sA n.shops.length n_sc], .agg #[.slice c_gA c.gauges.length c_gc, .int .i64 c.size, .int .i64 c.load, .slice c_bA c.brakes.length c_bc, .slice c_hA c.heats.length c_hc, .bool c.hooks], .int .i64 fr, .int .i64 g, .int .i64 ds] w (ListPost 0 (Pl.lacks n c fr g ds) w) := by
  have hb3 : Below w.heap.size w (((w.alloc (.cells #[.int .i64 n.stops, .slice n_tA n.tracks.length n_tc, .slice n_sA n.shops.length n_sc] 25)).alloc (.cells #[.slice c_gA c.gauges.length c_gc, .int .i64 c.size, .int .i64 c.load, .slice c_bA c.brakes.length c_bc, .slice c_hA c.heats.length c_hc, .bool c.hooks] 28)).alloc (.cells #[.int .i64 ds] 3)) := (((Below.refl _ _).alloc (Nat.le_refl _) _).alloc (by simp) _).alloc (by simp; omega) _
  have hsz : (((w.alloc (.cells #[.int .i64 n.stops, .slice n_tA n.tracks.length n_tc, .slice n_sA n.shops.length n_sc] 25)).alloc (.cells #[.slice c_gA c.gauges.length c_gc, .int .i64 c.size, .int .i64 c.load, .slice c_bA c.brakes.length c_bc, .slice c_hA c.heats.length c_hc, .bool c.hooks] 28)).alloc (.cells #[.int .i64 ds] 3)).heap.size = w.heap.size + 1 + 1 + 1 := by simp
  have Hn := Lib.hid ((hn.below hb3).more (B' := w.heap.size + 1 + 1 + 1) (by omega))
  have Hr := Lib.hid ((hr.below hb3).more (B' := w.heap.size + 1 + 1 + 1) (by omega))
  have HB3 := Lib.hid hb3
  clear hb3 hn hr
  have HQ := Lib.hid (hconv.out 9 _ _ _ _ (asked_yes n n_tA n_sA n_tc n_sc c c_gA c_bA c_hA c_gc c_bc c_hc fr g ds _ (by rw [hsz]; exact Hn.out) (by rw [hsz]; exact Hr.out) hA))
  have hU := fun (l : List Int) => asked_in (c' := Pl.given c l) (reb := []) hA
  have hFine := (fits_lists (both_check (question_b (asked_q hA).1).1).2).2
  have HU := Lib.hid hU; have HFine := Lib.hid hFine
  clear hU hA hFine
  have h1 : 1 ≤ 10 := by omega
  generalize hRR : Pl.lacks n c fr g ds = R
  have HRR := Lib.hid hRR; clear hRR
  refine callsIn_of_wp_marks Tryz.func16 rfl (hall 16) ?_ hro
  simp only [Tryz.ntmps16, List.size_toArray, List.length_cons, List.length_nil, Nat.reduceAdd, Nat.reduceSub, Array.replicate_succ, Array.replicate_zero, List.push_toArray, List.append_toArray, List.nil_append, List.cons_append]
  have hpre : ∀ (w1 : World) (X N : Nat), CarAt w1 X N c c_gA c_bA c_hA c_gc c_bc c_hc n n_tA n_sA n_tc n_sc none 0 0 → Below (((w.alloc (.cells #[.int .i64 n.stops, .slice n_tA n.tracks.length n_tc, .slice n_sA n.shops.length n_sc] 25)).alloc (.cells #[.slice c_gA c.gauges.length c_gc, .int .i64 c.size, .int .i64 c.load, .slice c_bA c.brakes.length c_bc, .slice c_hA c.heats.length c_hc, .bool c.hooks] 28)).alloc (.cells #[.int .i64 ds] 3)).heap.size (((w.alloc (.cells #[.int .i64 n.stops, .slice n_tA n.tracks.length n_tc, .slice n_sA n.shops.length n_sc] 25)).alloc (.cells #[.slice c_gA c.gauges.length c_gc, .int .i64 c.size, .int .i64 c.load, .slice c_bA c.brakes.length c_bc, .slice c_hA c.heats.length c_hc, .bool c.hooks] 28)).alloc (.cells #[.int .i64 ds] 3)) w1 →
      AskAt ((w1.alloc (.cells #[.pointer (some ⟨X, 0, none⟩)] 55)).alloc (.cells #[.int .i64 fr, .int .i64 g] 64)) (w.heap.size + 1) w1.heap.size (w1.heap.size + 1) (w.heap.size + 1 + 1) X N c c_gA c_bA c_hA c_gc c_bc c_hc n n_tA n_sA n_tc n_sc fr g ds ∧
      Below w.heap.size w ((w1.alloc (.cells #[.pointer (some ⟨X, 0, none⟩)] 55)).alloc (.cells #[.int .i64 fr, .int .i64 g] 64)) ∧ w.heap.size + 1 + 1 + 1 ≤ w1.heap.size ∧ NReads w1 w1.heap.size n n_tA n_sA n_tc n_sc ∧ CReads w1 w1.heap.size c c_gA c_bA c_hA c_gc c_bc c_hc := by
    intro w1 X N hcar hb
    rw [hsz] at hb
    obtain ⟨h1, h2⟩ := asked_world (fr := fr) (g := g) hcar hb
    have hs1 : w.heap.size + 1 + 1 + 1 ≤ w1.heap.size := by have := hb.size; rwa [hsz] at this
    exact ⟨h1, h2, hs1, (Hn.out.below hb).more hs1, (Hr.out.below hb).more hs1⟩
  have HPre := Lib.hid hpre
  clear hpre hsz
  gi_wp2_with (gi_at_call 30; refine HQ.out.mono ?_; rintro e w1 ⟨X, N, rfl, hcar, hX, hN, hb⟩; obtain ⟨hAsk, hBW, hs1, hn1, hr1⟩ := HPre.out w1 X N hcar hb; obtain ⟨x0, x1, x2, x3, x4, x5⟩ := box_cells c _ _ _ _ _ _ (blk_alloc hAsk.coach (.cells #[.slice none 0 0] 23)); have HAsk := Lib.hid hAsk; have HBW := Lib.hid hBW; have Hn1 := Lib.hid hn1; have Hr1 := Lib.hid hr1; clear hAsk hBW hcar hb hn1 hr1 hX hN HQ HPre)
  refine (hconv.out 9 _ _ _ _ (missing_any c c_gA c_bA c_hA c_gc c_bc c_hc _)).mono ?_
  rintro e w2 ⟨rfl, rfl⟩
  clear x0 x1 x2 x3 x4 x5
  gi_wp2_with fail
  obtain ⟨W3, hW3⟩ : ∃ W3, ((((w1.alloc (.cells #[.pointer (some ⟨X, 0, none⟩)] 55)).alloc (.cells #[.int .i64 fr, .int .i64 g] 64)).alloc (.cells #[.slice none 0 0] 23)).alloc (.cells #[.slice c_gA c.gauges.length c_gc, .int .i64 c.size, .int .i64 c.load, .slice c_bA c.brakes.length c_bc, .slice c_hA c.heats.length c_hc, .bool c.hooks] 28)) = W3 := ⟨_, rfl⟩
  have hbO : Boxed W3 (w1.heap.size + 1 + 1) 23 (.slice none 0 0) := by
    rw [← hW3]
    have := Boxed.new ((w1.alloc (.cells #[.pointer (some ⟨X, 0, none⟩)] 55)).alloc (.cells #[.int .i64 fr, .int .i64 g] 64)) 23 (.slice none 0 0)
    simpa using this.alloc (.cells #[.slice c_gA c.gauges.length c_gc, .int .i64 c.size, .int .i64 c.load, .slice c_bA c.brakes.length c_bc, .slice c_hA c.heats.length c_hc, .bool c.hooks] 28)
  have hbC : W3.heap[w1.heap.size + 1 + 1 + 1]? = some (.cells #[.slice c_gA c.gauges.length c_gc, .int .i64 c.size, .int .i64 c.load, .slice c_bA c.brakes.length c_bc, .slice c_hA c.heats.length c_hc, .bool c.hooks] 28 (0, 0)) := by
    rw [← hW3]
    have := heap_alloc_new (((w1.alloc (.cells #[.pointer (some ⟨X, 0, none⟩)] 55)).alloc (.cells #[.int .i64 fr, .int .i64 g] 64)).alloc (.cells #[.slice none 0 0] 23)) (.cells #[.slice c_gA c.gauges.length c_gc, .int .i64 c.size, .int .i64 c.load, .slice c_bA c.brakes.length c_bc, .slice c_hA c.heats.length c_hc, .bool c.hooks] 28)
    simpa using this
  have hs3 : W3.heap.size = w1.heap.size + 1 + 1 + 1 + 1 := by rw [← hW3]; simp
  have hb13 : Below w1.heap.size w1 W3 := by rw [← hW3]; exact ((((Below.refl _ _).alloc (Nat.le_refl _) _).alloc (by simp) _).alloc (by simp <;> omega) _).alloc (by simp <;> omega) _
  have hb23 : Below (w1.heap.size + 1 + 1) ((w1.alloc (.cells #[.pointer (some ⟨X, 0, none⟩)] 55)).alloc (.cells #[.int .i64 fr, .int .i64 g] 64)) W3 := by rw [← hW3]; exact ((Below.refl _ _).alloc (by simp) _).alloc (by simp <;> omega) _
  have hn3 := (Hn1.out.below hb13).more (B' := w1.heap.size + 1 + 1) (by omega)
  have hr3 := (Hr1.out.below hb13).more (B' := w1.heap.size + 1 + 1) (by omega)
  have hAsk3 := HAsk.out.below hb23 (by simp)
  have hXN : X < w1.heap.size + 1 + 1 ∧ N < w1.heap.size + 1 + 1 := by
    have h1 := HAsk.out.car.ltX; have h2 := HAsk.out.car.ltN
    simp at h1 h2; omega
  have hBW3 := HBW.out.trans (hb23.mono (by omega))
  have Hn3 := Lib.hid hn3; have Hr3 := Lib.hid hr3; have HAsk3 := Lib.hid hAsk3; have HBW3 := Lib.hid hBW3
  rw [hW3]
  clear hW3 hb13 hb23 hn3 hAsk3 hBW3 HAsk HBW Hn1 Hr1 Hn Hr HB3 hr3
  obtain ⟨i0, hi, hz0, hz1, hz2⟩ := info_parts int_info
  refine wpIn_rangeFunc_ownG hro h1 (gf := 58) (lb := #[.pointer (some ⟨w1.heap.size + 1 + 1 + 1, 0, none⟩)]) rfl (hall 58) (enters_of Tryz.func58 (by kernel_rfl) rfl)
    (miss_stops F 9 (hall 58) (hall 28) hro (by omega) (fun A cp xs x B w hI hl => hconv.out 8 _ _ _ _ (contains_any A cp xs x B w hI hl)) (w1.heap.size + 1 + 1 + 1) (w1.heap.size + 1 + 1) c c_gA c_bA c_hA c_gc c_bc c_hc W3 hbC (by omega) Hr3.out)
    KpM.trans (fun W l o o' hl ho hc _ => KpM.putObj (by omega) ho hc) (Below.refl _ _) (fun _ => rfl)
    (fun pre W => (∃ v, Boxed W (w1.heap.size + 1 + 1) 23 v ∧ W.ownsRow (w1.heap.size + 1 + 1) 3 1 v pre.length (pre.map (Value.int .i64)) ∧ True) ∧ Below (w1.heap.size + 1 + 1) W3 W)
    (fun _ _ _ => False)
    (OwnFrom.and (Own.from (holdsRow_own (w1.heap.size + 1 + 1) (w1.heap.size + 1 + 1) 23 3 1 (fun pre : List Int => pre.length) (fun pre => pre.map (Value.int .i64)) (fun _ _ => True)) _) (ownFrom_below (by omega) (by omega)))
    (fun _ _ _ _ _ hs _ _ => hs)
    ⟨⟨_, hbO, World.ownsRow_nil _ _ _ _, trivial⟩, Below.refl _ _⟩
    (fun x => { tmps := #[.agg #[.int .i64 n.stops, .slice n_tA n.tracks.length n_tc, .slice n_sA n.shops.length n_sc], .agg #[.slice c_gA c.gauges.length c_gc, .int .i64 c.size, .int .i64 c.load, .slice c_bA c.brakes.length c_bc, .slice c_hA c.heats.length c_hc, .bool c.hooks], .int .i64 fr, .int .i64 g, .int .i64 ds, .pointer (some ⟨w.heap.size, 0, none⟩), .pointer (some ⟨w.heap.size + 1, 0, none⟩), undef, undef, .pointer (some ⟨w.heap.size + 1 + 1, 0, none⟩), .slice none 0 0, .int .i64 0, .pointer (some ⟨w1.heap.size, 0, none⟩), .pointer (some ⟨w1.heap.size + 1, 0, none⟩), .int .i64 0, .pointer (some ⟨w1.heap.size + 1 + 1, 0, none⟩), .int .i64 x, undef, undef, .tuple #[.pointer (some ⟨X, 0, none⟩), .agg #[.int .i64 fr, .int .i64 g], .int .i64 0], .agg #[.int .i64 n.stops, .slice n_tA n.tracks.length n_tc, .slice n_sA n.shops.length n_sc], .agg #[.slice c_gA c.gauges.length c_gc, .int .i64 c.size, .int .i64 c.load, .slice c_bA c.brakes.length c_bc, .slice c_hA c.heats.length c_hc, .bool c.hooks], .int .i64 fr, .int .i64 g, .int .i64 ds, .tuple #[.pointer (some ⟨X, 0, none⟩), .agg #[.int .i64 fr, .int .i64 g], .int .i64 0], .pointer (some ⟨X, 0, none⟩), .agg #[.int .i64 fr, .int .i64 g], .int .i64 0, .int .i64 0, .bool false, undef, .agg #[.slice c_gA c.gauges.length c_gc, .int .i64 c.size, .int .i64 c.load, .slice c_bA c.brakes.length c_bc, .slice c_hA c.heats.length c_hc, .bool c.hooks], .func (.func 58) #[] #[.pointer (some ⟨w1.heap.size + 1 + 1 + 1, 0, none⟩)], .int .i64 x, undef, undef, undef, undef, undef, undef, undef, undef, undef, undef, undef, undef, undef], defers := [] }) ?assign ?body ?done ?stop
  case assign =>
    intro l x W K hK
    gi_wp2
    exact hK
  case body =>
    rintro l pre x W ⟨⟨v, hv, hrow, _⟩, hB⟩ hlt
    have hc := hv.cell
    have hszW := hB.size
    gi_wp2_with (gi_at_builtin; refine wpListIn_append_own _ rfl _ _ 23 rfl (w1.heap.size + 1 + 1) 3 i0 (.int .i64 0) 1 8 Tryz.underlying23 hi hz0 hz1 hz2 rfl (by decide) _ _ _ rfl (hrow.alloc _) ⟨W.heap.size, 0, none⟩ 1 1 [.int .i64 x] rfl rfl (cell_one_new _ _ _) (by simp [Value.oneCell']) (by simp [maxLen]; omega) (by omega) (by simp; omega) ?_; intro v' w1' hown' hgrow _; obtain ⟨g', cap', rfl⟩ := ownsRow_succ hown'; obtain ⟨hv1, hv2, hr2, hk2, hb2⟩ := hv.appended (by decide) hrow (by omega) (Nat.le_refl _) hown' hgrow; have hc1 := hv1.cell; have hf1 := hv1.frozen)
    exact ⟨hk2.from _, ⟨hb2, KpM.appended hv hrow hgrow⟩, ⟨_, hv2, by simpa using hr2, trivial⟩, hB.trans hb2⟩
  case done =>
    rintro D ys W hD rfl ⟨⟨v, hv, hrow, _⟩, hB⟩ hK
    obtain ⟨A, ca, rfl⟩ := own_slice hrow
    have hown : OwnInts W (w1.heap.size + 1 + 1) A ca (Pl.missing c) := hrow
    have hml := missing_length c
    have hF := hconv.out 9 _ _ _ _ (fewest_any A ca (Pl.missing c) 40 (.pointer (some ⟨w.heap.size + 1, 0, none⟩)) (.pointer (some ⟨w1.heap.size, 0, none⟩)) (.pointer (some ⟨w1.heap.size + 1, 0, none⟩)) (.pointer (some ⟨w.heap.size + 1 + 1, 0, none⟩))
      (fun l => Pl.comes n (Pl.given c l) [] (fr, g) ds) W (fun x ws => lack_enter x _ _ _ _ ws)
      (fun wq A' c' l hbq hI hin hlq => by
        have hbz := hB.trans (hbq.mono (by have := hB.size; omega))
        have hsq := hbz.size
        exact lack_any (w.heap.size + 1) w1.heap.size (w1.heap.size + 1) (w.heap.size + 1 + 1) X N c c_gA c_bA c_hA c_gc c_bc c_hc n n_tA n_sA n_tc n_sc fr g ds A' c' l wq (HAsk3.out.below2 hbz (by omega) (by omega) (by omega) (by omega) hXN.1 hXN.2) ((Hr3.out.below hbz).more (by omega)) ((Hn3.out.below hbz).more (by omega)) hI (by omega) HFine.out (fun x hx => by have := missing_le c x (hin x hx); omega) places (HU.out l) places_length)
      (by omega) hown.ints)
    have HF := Lib.hid hF
    have hsB := hB.size
    have HBz := Lib.hid (HBW3.out.trans (hB.mono (by omega)))
    have hR : Hid (Pl.fewest (Pl.missing c) (fun l => Pl.comes n (Pl.given c l) [] (fr, g) ds) = R) := HRR.out
    rw [hR.out] at HF
    have hcv := hv.cell
    have hDlt := lt_of_block hK
    have HK := Lib.hid hK
    clear hF hown hB hR HRR HAsk3 HU Hn3 Hr3 hrow hv hK
    cases R with
    | none =>
      gi_wp2_with (gi_at_call 39; refine HF.out.mono ?_; rintro e w3 ⟨A3, n3, c3, rfl, hb3⟩)
      have hK3 := blk_below HK.out hb3 hDlt
      refine ⟨by simp, .inl ⟨_, _, rfl, run_takeDeferred hK3, ?_⟩⟩
      exact ⟨.tuple #[.slice none 0 0, .int .i64 11], by simp [results, Tryz.f21, go_sem], listPost_none ((HBz.out.trans (hb3.mono (HBz.out.size))).trans (belowK_b (w := w) (Nat.le_refl _) w3 D _ _ (by omega) hK3 rfl rfl))⟩
    | some l =>
      gi_wp2_with (gi_at_call 39; refine HF.out.mono ?_; rintro e w3 ⟨A3, c3, rfl, hI3, hb3⟩)
      have hK3 := blk_below HK.out hb3 hDlt
      refine ⟨by simp, .inl ⟨_, _, rfl, run_takeDeferred hK3, ?_⟩⟩
      exact ⟨.tuple #[.slice A3 l.length c3, .int .i64 0], by simp [results, Tryz.f21, go_sem], listPost_some (ints_putObj hI3 hK3 rfl) ((HBz.out.trans (hb3.mono (HBz.out.size))).trans (belowK_b (w := w) (Nat.le_refl _) w3 D _ _ (by omega) hK3 rfl rfl))⟩
  case stop =>
    rintro D c pre W _ _ h _
    exact h.elim

theorem lacks_any (n : Pl.Nt) (n_tA n_sA : Option Addr) (n_tc n_sc : Nat) (c : Pl.Cch) (c_gA c_bA c_hA : Option Addr) (c_gc c_bc c_hc : Nat) (fr g ds : Int) (w : World) (hn : NReads w w.heap.size n n_tA n_sA n_tc n_sc) (hr : CReads w w.heap.size c c_gA c_bA c_hA c_gc c_bc c_hc) :
    Calls Tryz.prog 16 #[.agg #[.int .i64 n.stops, .slice n_tA n.tracks.length n_tc, .slice n_sA n.shops.length n_sc], .agg #[.slice c_gA c.gauges.length c_gc, .int .i64 c.size, .int .i64 c.load, .slice c_bA c.brakes.length c_bc, .slice c_hA c.heats.length c_hc, .bool c.hooks], .int .i64 fr, .int .i64 g, .int .i64 ds] w (ListPost (Pl.asked n c fr g ds) (Pl.lacks n c fr g ds) w) := by
  have hc : Hid (∀ m f args w R, Calls Tryz.prog f args w R → CallsIn Fence.wide m Tryz.prog f args w R) := fun m f args w R h => callsIn_wide.2 h
  by_cases hA : Pl.asked n c fr g ds = 0
  · have := callsIn_wide.1 (lacks_yes n n_tA n_sA n_tc n_sc c c_gA c_bA c_hA c_gc c_bc c_hc fr g ds w Fence.wide (fun _ => trivial) rfl hc hn hr hA)
    rwa [hA]
  · exact callsIn_wide.1 (lacks_no n n_tA n_sA n_tc n_sc c c_gA c_bA c_hA c_gc c_bc c_hc fr g ds w Fence.wide (fun _ => trivial) rfl hc hn hr hA)
end Go.Proofs.YtpbjpochjagicaaGreatDoorRR
