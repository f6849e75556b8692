/- Walks: a net is dealt. Walks: a net is dealt: NetOf. -/
import Derived.Test.YtpbjpochjagicaaGreatOt
import Derived.Test.YtpbjpochjagicaaGreatW37
import Derived.Test.YtpbjpochjagicaaGreatW15
namespace Go.Proofs.YtpbjpochjagicaaGreat
open Go.RowKit

/-- A net under way. -/
structure NetSt (g : Nat) (w wr : World) (st : Int) (ts : List Pl.Trk) (tA : Option Addr) (tc : Nat) : Prop where
  box : wr.heap[w.heap.size + 1]? = some (.cells #[.int .i64 st, .slice tA ts.length tc, .slice none 0 0] 25 (0, 0))
  res : wr.heap[w.heap.size]? = some (.cells #[.int .i64 0, .slice none 0 0, .slice none 0 0] 25 (0, 0))
  row : OwnTrks wr (w.heap.size + 2) tA tc ts
  kb : Kb g w wr
  big : w.heap.size + 2 ≤ wr.heap.size
section
variable {g : Nat} {w wr w2 : World} {st : Int} {ts : List Pl.Trk} {tA : Option Addr} {tc : Nat}
theorem NetSt.bagged (h : NetSt g w wr st ts tA tc) (hg : g < w.heap.size) (hB : Bagged g wr w2) : NetSt g w w2 st ts tA tc :=
  ⟨(hB.block (by omega)).trans h.box, (hB.block (by omega)).trans h.res, (hB.kb h.kb).row (by omega) h.row, h.kb.bagged hB, by have := hB.size; have := h.big; omega⟩
theorem NetSt.alloc (h : NetSt g w wr st ts tA tc) (o : Obj) : NetSt g w (wr.alloc o) st ts tA tc :=
  have := h.big
  ⟨(Below.heap_alloc _ _ _ (by omega)).trans h.box, (Below.heap_alloc _ _ _ (by omega)).trans h.res, World.ownsRow.alloc h.row _, h.kb.alloc _, by simp; omega⟩
theorem NetSt.drew (h : NetSt g w wr st ts tA tc) : NetSt g w wr.drew st ts tA tc := ⟨h.box, h.res, h.row, h.kb.drew, h.big⟩
theorem row_grown {base e size n : Nat} {v : Value} {xs : List Value} {row : Option Nat} (h : wr.ownsRow base e size v n xs) (hg : wr.grownBy w2 row) (hr : ∀ k, row = some k → k < base) : w2.ownsRow base e size v n xs := by
  refine ⟨h.1, ?_⟩
  rcases h.2 with h2 | ⟨b, cap, cur, hv, hg2, hh, r⟩
  · exact .inl h2
  · exact .inr ⟨b, cap, cur, hv, hg2, (hg.block b (lt_of_block hh) (fun e => by have := hr b e.symm; omega)).trans hh, r⟩
theorem NetSt.put {t : Pl.Trk} {A2 : Option Addr} {c2 : Nat} (h : NetSt g w wr st ts tA tc) (hg : g < w.heap.size) (ho : OwnTrks w2 (w.heap.size + 2) A2 c2 (ts ++ [t])) (hg2 : wr.grownBy w2 (Value.slice tA ts.length tc).ownBlock) :
    (w2.cell? ⟨w.heap.size + 1, 1, none⟩ = some (.slice tA ts.length tc) ∧ w2.frozen? ⟨w.heap.size + 1, 1, none⟩ = false) ∧
    NetSt g w (w2.setCell ⟨w.heap.size + 1, 1, none⟩ (.slice A2 (ts.length + 1) c2)) st (ts ++ [t]) A2 c2 := by
  have hbig := h.big
  have hsz := hg2.size
  have hrow : ∀ j, (Value.slice tA ts.length tc).ownBlock = some j → w.heap.size + 2 ≤ j := fun j hj => by
    rcases h.row.2 with ⟨h2, _⟩ | ⟨b, cap, cur, hv, hb, _⟩
    · injection h2 with h2; subst h2; simp [Value.ownBlock] at hj
    · injection hv with hv; subst hv; simp [Value.ownBlock] at hj; omega
  have b2 : w2.heap[w.heap.size + 1]? = _ := (hg2.block _ (by omega) (fun e => by have := hrow _ e.symm; omega)).trans h.box
  have b1 : w2.heap[w.heap.size]? = _ := (hg2.block _ (by omega) (fun e => by have := hrow _ e.symm; omega)).trans h.res
  refine ⟨⟨cell_of_row w2 _ 1 _ 25 (0, 0) b2, by simp [World.frozen?, b2]⟩, ?_, ?_, ownsRow_setCell_below ho (by simp) _, ?_, ?_⟩
  · have := blk_set b2 (i := 1) (.slice A2 (ts.length + 1) c2)
    simpa using this
  · rw [Below.heap_setCell _ _ _ _ (by simp)]; exact b1
  · exact (h.kb.grow hg2 (fun j hj => by have := hrow j hj; omega) hg).setCell (by simp) hg _
  · simp [World.setCell]; omega
theorem NetSt.kept (h : NetSt g w wr st ts tA tc) (hg : g < w.heap.size) (hk : Kb g wr w2) : NetSt g w w2 st ts tA tc :=
  have := h.big
  ⟨(hk.block (by omega) (by omega)).trans h.box, (hk.block (by omega) (by omega)).trans h.res, hk.row (by omega) h.row, h.kb.trans hk, by have := hk.size; omega⟩
/-- A store into a block that is newer than the row. -/
theorem NetSt.upd (h : NetSt g w wr st ts tA tc) (hn : NetSt g w w2 st ts tA tc) (hg : g < w.heap.size) {p : Addr} (hp : wr.heap.size ≤ p.block) (u : Value) : NetSt g w (w2.setCell p u) st ts tA tc := by
  have := h.big
  refine ⟨(Below.heap_setCell _ _ _ _ (by omega)).trans hn.box, (Below.heap_setCell _ _ _ _ (by omega)).trans hn.res, ⟨hn.row.1, ?_⟩, hn.kb.setCell (by omega) hg _, by have := hn.big; simp [World.setCell]; omega⟩
  rcases hn.row.2 with h2 | ⟨b, cap, cur, hv, hg2, hh, r⟩
  · exact .inl h2
  · refine .inr ⟨b, cap, cur, hv, hg2, (Below.heap_setCell _ _ _ _ ?_).trans hh, r⟩
    rcases h.row.2 with ⟨h2, _⟩ | ⟨b', cap', cur', hv', _, hh', _⟩
    · rw [hv] at h2; cases h2
    · rw [hv] at hv'
      injection hv' with hv' _ _
      injection hv' with hv'
      injection hv' with hv' _ _
      subst hv'
      have := lt_of_block hh'
      omega
theorem NetSt.facts (h : NetSt g w wr st ts tA tc) :
    (wr.cell? ⟨w.heap.size + 1, 0, none⟩ = some (.int .i64 st) ∧ wr.cell? ⟨w.heap.size + 1, 1, none⟩ = some (.slice tA ts.length tc) ∧ wr.cell? ⟨w.heap.size + 1, 2, none⟩ = some (.slice none 0 0)) ∧
    (wr.cell? ⟨w.heap.size, 0, none⟩ = some (.int .i64 0) ∧ wr.cell? ⟨w.heap.size, 1, none⟩ = some (.slice none 0 0) ∧ wr.cell? ⟨w.heap.size, 2, none⟩ = some (.slice none 0 0)) ∧
    wr.frozen? ⟨w.heap.size, 0, none⟩ = false ∧ wr.frozen? ⟨w.heap.size, 1, none⟩ = false ∧ wr.frozen? ⟨w.heap.size, 2, none⟩ = false ∧ wr.frozen? ⟨w.heap.size + 1, 1, none⟩ = false ∧ wr.frozen? ⟨w.heap.size + 1, 2, none⟩ = false :=
  ⟨⟨blk_cell h.box 0, blk_cell h.box 1, blk_cell h.box 2⟩, ⟨blk_cell h.res 0, blk_cell h.res 1, blk_cell h.res 2⟩, blk_frozen h.res 0, blk_frozen h.res 1, blk_frozen h.res 2, blk_frozen h.box 1, blk_frozen h.box 2⟩
end
end Go.Proofs.YtpbjpochjagicaaGreat

namespace Go.Proofs.YtpbjpochjagicaaGreat
open Go.RowKit

/-- What NetOf deals. -/
def NetDealt (g : Nat) (st tk : Int) (w : World) (e : Ending) (w' : World) : Prop := ∃ (n : Pl.Nt) (n_tA n_sA : Option Addr) (n_tc n_sc : Nat), e = .returned (.agg #[.int .i64 n.stops, .slice n_tA n.tracks.length n_tc, .slice n_sA n.shops.length n_sc]) ∧ OwnTrks w' (w.heap.size + 2) n_tA n_tc n.tracks ∧ OwnInts w' (w.heap.size + 2) n_sA n_sc n.shops ∧
  (Pl.check n = 0 ∧ 1 ≤ n.stops ∧ n.stops ≤ st ∧ (n.tracks.length : Int) ≤ tk ∧ n.shops.length ≤ 6) ∧ Kb g w w'

theorem ints_lit {w : World} {b : Nat} {cs : Array Value} {xs : List Int} (h : w.heap[b]? = some (.cells cs 3 (0, 0))) (hc : cs = (xs.map (Value.int .i64)).toArray) : Ints w w.heap.size (some ⟨b, 0, none⟩) xs := fun k x hk => by
  subst hc
  refine ⟨b, 0, rfl, lt_of_block h, ?_⟩
  rw [Nat.zero_add, blk_cell h k]
  simp [hk]

theorem own_weaken {w : World} {base base2 : Nat} {A : Option Addr} {c : Nat} {xs : List Int} (h : OwnInts w base2 A c xs) (hb : base ≤ base2) : OwnInts w base A c xs := by
  refine ⟨h.1, ?_⟩
  rcases h.2 with h2 | ⟨g, cap, cur, hv, hg, r⟩
  · exact .inl h2
  · exact .inr ⟨g, cap, cur, hv, by omega, r⟩

theorem tracksErr_snoc (s : Int) (t : Pl.Trk) : ∀ ts : List Pl.Trk, Pl.tracksErr s ts = 0 → Pl.trackErr s t = 0 → Pl.tracksErr s (ts ++ [t]) = 0
  | [], _, h => by simp [Pl.tracksErr, h]
  | x :: l, h1, h2 => by
    simp only [List.cons_append, Pl.tracksErr] at h1 ⊢
    by_cases hx : Pl.trackErr s x = 0
    · rw [if_pos hx] at h1 ⊢
      exact tracksErr_snoc s t l h1 h2
    · rw [if_neg hx] at h1
      exact absurd h1 hx
theorem dealt_fine {nn : Nat} {ts : List Pl.Trk} {a b km gau room br ht ld : Int} {fe : Bool} (h : Pl.tracksErr nn ts = 0) (h1 : 0 ≤ a) (h2 : a ≤ (nn : Int) - 1) (h3 : 0 ≤ b) (h4 : b < nn) (h5 : a ≠ b) (h6 : 1 ≤ km) (h7 : km ≤ 6)
    (h8 : gau ∈ ([1, 1, 2, 2, 3] : List Int)) (h9 : 3 ≤ room) (h10 : room ≤ 7) (h11 : br ∈ ([0, 0, 1, 1, 2] : List Int)) (h12 : ht ∈ ([0, 0, 0, 1, 2, 3] : List Int)) (h13 : 8 ≤ ld) (h14 : ld ≤ 16) : Pl.tracksErr nn (ts ++ [⟨a, b, km, gau, room, br, ht, ld, fe⟩]) = 0 := by
  refine tracksErr_snoc _ _ _ h ?_
  have g1 : 1 ≤ gau ∧ gau ≤ 3 := by simp at h8; omega
  have g2 : 0 ≤ br ∧ br ≤ 3 := by simp at h11; omega
  have g3 : 0 ≤ ht ∧ ht ≤ 3 := by simp at h12; omega
  have o1 : Pl.out a 0 ((nn : Int) - 1) = false := by simp [Pl.out]; omega
  have o2 : Pl.out b 0 ((nn : Int) - 1) = false := by simp [Pl.out]; omega
  have o3 : Pl.out km 1 99 = false := by simp [Pl.out]; omega
  have o4 : Pl.out gau 1 3 = false := by simp [Pl.out]; omega
  have o5 : Pl.out room 1 9 = false := by simp [Pl.out]; omega
  have o6 : Pl.out br 0 3 = false := by simp [Pl.out]; omega
  have o7 : Pl.out ht 0 3 = false := by simp [Pl.out]; omega
  have o8 : Pl.out ld 1 20 = false := by simp [Pl.out]; omega
  simp [Pl.trackErr, o1, o2, o3, o4, o5, o6, o7, o8, h5]

theorem dealt_check {nn : Nat} {ts : List Pl.Trk} {xs : List Int} (h1 : 1 ≤ nn) (h2 : nn ≤ 6) (h3 : ts.length ≤ 8) (h4 : Pl.tracksErr nn ts = 0) (h5 : Upw 0 nn xs) : Pl.check ⟨nn, ts, xs⟩ = 0 := by
  rw [check_of_shops (by simp [Pl.out]; omega) h3 h4]
  exact h5.rising_below _ (by omega)

set_option maxRecDepth 20000 in
set_option maxHeartbeats 4000000 in
theorem netOf_any (g : Nat) (st tk : Int) (w : World) (hb : BagAt w g) (h1 : 1 ≤ st) (h6 : st ≤ 6) (ht0 : 0 ≤ tk) (ht8 : tk ≤ 8) :
    Calls Tryz.prog 32 #[.pointer (some ⟨g, 0, none⟩), .int .i64 st, .int .i64 tk] w (NetDealt g st tk w) := by
  have hg := hb.lt
  have hK0 := Lib.hid (Kb.refl hb)
  go_enter Tryz.func32, Tryz.ntmps32
  go_wp2_with fail
  refine (from_any g _ _ _ (hb.alloc _) (by omega) (by omega) (by omega) (by omega)).mono ?_
  rintro e w1 ⟨ns, rfl, hn1, hn2, hB1⟩
  have k1 := (hK0.out.alloc _).bagged hB1
  have e1 : w1.heap.size = w.heap.size + 1 := by rw [hB1.size]; simp
  have hres : w1.heap[w.heap.size]? = some (.cells #[.int .i64 0, .slice none 0 0, .slice none 0 0] 25 (0, 0)) := by
    rw [hB1.block (by omega)]; exact heap_alloc_new w _
  have st0 : NetSt g w (w1.alloc (.cells #[.int .i64 ns, .slice none 0 0, .slice none 0 0] 25)) ns [] none 0 :=
    ⟨by rw [← e1]; exact heap_alloc_new w1 _, (Below.heap_alloc _ _ _ (by omega)).trans hres, OwnTrks.nil _ _, k1.alloc _, by simp; omega⟩
  have hn6 : ns ≤ 6 := by omega
  obtain ⟨nn, rfl⟩ : ∃ nn : Nat, ns = nn := ⟨ns.toNat, by omega⟩
  go_wp2_with fail
  refine (up_any g _ _ st0.kb.bag (by omega)).mono ?_
  rintro e w2 ⟨m, rfl, hm0, hm1, hB2⟩
  have st1 := Lib.hid (st0.bagged hg hB2)
  clear st0 hK0 k1 hres
  go_wp2_with fail
  go_loopw [8] (fun i wr => ∃ (k : Int) (ts : List Pl.Trk) (tA : Option Addr) (tc : Nat), 0 ≤ k ∧ i = .int .i64 k ∧ NetSt g w wr nn ts tA tc ∧ k + ts.length ≤ tk ∧ Pl.tracksErr nn ts = 0) (fun i _ => (intOf i).toNat)
  case atStart => exact ⟨m, [], none, 0, hm0, rfl, st1.out, by simp; omega, rfl⟩
  case round =>
    obtain ⟨k, ts, tA, tc, hk0, rfl, s0, hlen, herr⟩ := hrel
    clear st1
    have hbig := s0.big
    have hF := s0.facts
    obtain ⟨⟨x0, x1, x2⟩, ⟨y0, y1, y2⟩, z0, z1, z2, zb1, zb2⟩ := hF
    by_cases hgo : 0 < k ∧ 1 < (nn : Int)
    · obtain ⟨hkp, hnp⟩ := hgo
      go_wp2_with fail
      refine (up_any g _ _ s0.kb.bag (by omega)).mono ?_
      rintro e v1 ⟨a, rfl, ha0, ha1, hC1⟩
      have s1 := Lib.hid (s0.bagged hg hC1)
      go_wp2_with fail
      refine (from_any g _ _ _ s1.out.kb.bag (by omega) (by omega) (by omega) (by omega)).mono ?_
      rintro e v2 ⟨km, rfl, hkm1, hkm2, hC2⟩
      have s2 := Lib.hid (s1.out.bagged hg hC2)
      go_wp2_with fail
      refine (one_any g v2.heap.size 0 5 [1, 1, 2, 2, 3] _ (s2.out.alloc _).kb.bag (ints_lit (heap_alloc_new _ _) rfl) (by have := s2.out.big; omega) (by simp) (by simp)).mono ?_
      rintro e v3 ⟨gau, rfl, hgau, hC3⟩
      have s3 := Lib.hid ((s2.out.alloc _).bagged hg hC3)
      go_wp2_with fail
      refine (from_any g _ _ _ s3.out.kb.bag (by omega) (by omega) (by omega) (by omega)).mono ?_
      rintro e v4 ⟨room, rfl, hro1, hro2, hC4⟩
      have s4 := Lib.hid (s3.out.bagged hg hC4)
      go_wp2_with fail
      refine (one_any g v4.heap.size 0 5 [0, 0, 1, 1, 2] _ (s4.out.alloc _).kb.bag (ints_lit (heap_alloc_new _ _) rfl) (by have := s4.out.big; omega) (by simp) (by simp)).mono ?_
      rintro e v5 ⟨br, rfl, hbr, hC5⟩
      have s5 := Lib.hid ((s4.out.alloc _).bagged hg hC5)
      go_wp2_with fail
      refine (one_any g v5.heap.size 0 6 [0, 0, 0, 1, 2, 3] _ (s5.out.alloc _).kb.bag (ints_lit (heap_alloc_new _ _) rfl) (by have := s5.out.big; omega) (by simp) (by simp)).mono ?_
      rintro e v6 ⟨ht, rfl, hht, hC6⟩
      have s6 := Lib.hid ((s5.out.alloc _).bagged hg hC6)
      go_wp2_with fail
      refine (from_any g _ _ _ s6.out.kb.bag (by omega) (by omega) (by omega) (by omega)).mono ?_
      rintro e v7 ⟨ld, rfl, hld1, hld2, hC7⟩
      have s7 := Lib.hid (s6.out.bagged hg hC7)
      go_wp2_with fail
      refine (chance_any g _ _ _ s7.out.kb.bag (by omega) (by omega)).mono ?_
      rintro e v8 ⟨fe, rfl, hC8⟩
      have s8 := Lib.hid (s7.out.bagged hg hC8)
      clear hC1 hC2 hC3 hC4 hC5 hC6 hC7 hC8 s1 s2 s3 s4 s5 s6 s7 s0 x0 x1 x2 y0 y1 y2 z0 z1 z2 zb1 zb2
      have hb8 := s8.out.big
      have hl8 : w.heap.size + 1 < v8.heap.size := by omega
      have x0 := s8.out.facts.1.1
      go_wp2_with fail
      have nb := heap_alloc_new v8 (.cells #[.int .i64 a, .int .i64 0, .int .i64 km, .int .i64 gau, .int .i64 room, .int .i64 br, .int .i64 ht, .int .i64 ld, .bool fe] 107)
      have hK : ∀ w', Bagged g (v8.alloc (.cells #[.int .i64 a, .int .i64 0, .int .i64 km, .int .i64 gau, .int .i64 room, .int .i64 br, .int .i64 ht, .int .i64 ld, .bool fe] 107)).drew w' →
          w'.cell? ⟨w.heap.size + 1, 0, none⟩ = some (.int .i64 nn) ∧ w'.cell? ⟨v8.heap.size, 0, none⟩ = some (.int .i64 a) ∧ w'.cell? ⟨v8.heap.size, 1, none⟩ = some (.int .i64 0) ∧ w'.frozen? ⟨v8.heap.size, 1, none⟩ = false := fun w' hB => by
        have hn := (hB.block (k := v8.heap.size) (by omega)).trans nb
        exact ⟨(((s8.out.alloc _).drew).bagged hg hB).facts.1.1, blk_cell hn 0, blk_cell hn 1, blk_frozen hn 1⟩
      have HK := Lib.hid hK
      have hKB : BagAt (v8.alloc (.cells #[.int .i64 a, .int .i64 0, .int .i64 km, .int .i64 gau, .int .i64 room, .int .i64 br, .int .i64 ht, .int .i64 ld, .bool fe] 107)).drew g := ((s8.out.alloc _).drew).kb.bag
      have HB := Lib.hid hKB
      have hS : (v8.alloc (.cells #[.int .i64 a, .int .i64 0, .int .i64 km, .int .i64 gau, .int .i64 room, .int .i64 br, .int .i64 ht, .int .i64 ld, .bool fe] 107)).drew.cell? ⟨w.heap.size + 1, 0, none⟩ = some (.int .i64 nn) ∧ (v8.alloc (.cells #[.int .i64 a, .int .i64 0, .int .i64 km, .int .i64 gau, .int .i64 room, .int .i64 br, .int .i64 ht, .int .i64 ld, .bool fe] 107)).drew.cell? ⟨v8.heap.size, 0, none⟩ = some (.int .i64 a) :=
        ⟨((s8.out.alloc _).drew).facts.1.1, blk_cell nb 0⟩
      clear hK hKB nb
      have hnz : ((nn : Int) == 0) = false := by rw [beq_eq_false_iff_ne]; omega
      have hnz' : ¬ (nn : Int) = 0 := by omega
      have hnz2 : ¬ nn = 0 := by omega
      have hnz3 : (nn == 0) = false := by rw [beq_eq_false_iff_ne]; omega
      have HW : Hid (IntKind.i64.wrap ((nn : Int) - 1) = (nn : Int) - 1) := IntWalk.i64_in _ ⟨by omega, by omega⟩
      go_region_held3 (fun w' => w'.cell? ⟨w.heap.size + 1, 0, none⟩ = some (.int .i64 nn) ∧ w'.cell? ⟨v8.heap.size, 0, none⟩ = some (.int .i64 a))
        (first | go_keep | exact hS | exact ⟨(World.cell?_setCell_other _ _ _ _ (by simp)).trans hS.1, (World.cell?_setCell_other _ _ _ _ (by simp)).trans hS.2⟩)
        (first | (go_at_call 71; rw [HW.out]; refine (from_any g _ _ _ HB.out (by omega) (by omega) (by omega) (by omega)).mono ?_; rintro e v9 ⟨x, rfl, hx1, hx2, hC9⟩; have hq := HK.out _ hC9; obtain ⟨q0, q1, q2, q3⟩ := hq; have hS := And.intro q0 q1; have hz0 : 0 ≤ a + x := (by omega); have hz3 : (a + x).tmod (nn : Int) = (a + x) % nn := Int.tmod_eq_emod_of_nonneg hz0; have hz6 : 0 ≤ (a + x) % (nn : Int) := Int.emod_nonneg _ hnz'; have hz7 : (a + x) % (nn : Int) < nn := Int.emod_lt_of_pos _ (by omega); have hz5 : IntKind.i64.wrap ((a + x) % (nn : Int)) = (a + x) % nn := IntWalk.i64_in _ ⟨by omega, by omega⟩; have hz8 : IntKind.i64.wrap ((a + x).tmod (nn : Int)) = (a + x) % nn := (by rw [hz3]; exact hz5); have hz : IntKind.i64.wrap (a + x) = a + x := IntWalk.i64_in _ ⟨by omega, by omega⟩))
      have hxn : x ≤ (nn : Int) - 1 := by omega
      have hbm0 : 0 ≤ (a + x) % (nn : Int) := Int.emod_nonneg _ (by omega)
      have hbm1 : (a + x) % (nn : Int) < nn := Int.emod_lt_of_pos _ (by omega)
      have hne : a ≠ (a + x) % (nn : Int) := by
        intro he
        have h1 := Int.emod_add_mul_ediv (a + x) nn
        rw [← he] at h1
        have h2 : x = (nn : Int) * ((a + x) / nn) := by omega
        have h3 : (nn : Int) ∣ x := ⟨_, h2⟩
        have h4 := Int.le_of_dvd (by omega) h3
        omega
      have s9 := Lib.hid (s8.out.upd (((s8.out.alloc (.cells #[.int .i64 a, .int .i64 0, .int .i64 km, .int .i64 gau, .int .i64 room, .int .i64 br, .int .i64 ht, .int .i64 ld, .bool fe] 107)).drew).bagged hg hC9) hg (p := ⟨v8.heap.size, 1, none⟩) (Nat.le_refl _) (.int .i64 ((a + x) % nn)))
      have hbk := blk_set ((hC9.block (k := v8.heap.size) (by omega)).trans (heap_alloc_new v8 (.cells #[.int .i64 a, .int .i64 0, .int .i64 km, .int .i64 gau, .int .i64 room, .int .i64 br, .int .i64 ht, .int .i64 ld, .bool fe] 107))) (i := 1) (.int .i64 ((a + x) % nn))
      generalize (a + x) % (nn : Int) = b at hbm0 hbm1 hne s9 hbk ⊢
      generalize v9.setCell ⟨v8.heap.size, 1, none⟩ (.int .i64 b) = W1 at s9 hbk ⊢
      have c0 : W1.cell? ⟨v8.heap.size, 0, none⟩ = some (.int .i64 a) := blk_cell hbk 0
      have c1 : W1.cell? ⟨v8.heap.size, 1, none⟩ = some (.int .i64 b) := blk_cell hbk 1
      have c2 : W1.cell? ⟨v8.heap.size, 2, none⟩ = some (.int .i64 km) := blk_cell hbk 2
      have c3 : W1.cell? ⟨v8.heap.size, 3, none⟩ = some (.int .i64 gau) := blk_cell hbk 3
      have c4 : W1.cell? ⟨v8.heap.size, 4, none⟩ = some (.int .i64 room) := blk_cell hbk 4
      have c5 : W1.cell? ⟨v8.heap.size, 5, none⟩ = some (.int .i64 br) := blk_cell hbk 5
      have c6 : W1.cell? ⟨v8.heap.size, 6, none⟩ = some (.int .i64 ht) := blk_cell hbk 6
      have c7 : W1.cell? ⟨v8.heap.size, 7, none⟩ = some (.int .i64 ld) := blk_cell hbk 7
      have c8 : W1.cell? ⟨v8.heap.size, 8, none⟩ = some (.bool fe) := blk_cell hbk 8
      have x1 := s9.out.facts.1.2.1
      have hb9 := s9.out.big
      clear x0 hbk HB HK
      have hall : Hid (Pl.tracksErr nn (ts ++ [⟨a, b, km, gau, room, br, ht, ld, fe⟩]) = 0) := dealt_fine herr ha0 (by omega) hbm0 hbm1 hne (by omega) (by omega) hgau (by omega) (by omega) hbr hht (by omega) (by omega)
      clear hgau hbr hht hC9 hS
      go_wp2_with (at_builtin; refine wpl_app_trk rfl (.tmp 62) (.tmp 64) 22 rfl (w.heap.size + 2) Tryz.underlying22 trk_info tA tc ts rfl (s9.out.alloc _).row W1.heap.size 1 ⟨a, b, km, gau, room, br, ht, ld, fe⟩ rfl (fun j u hu => (blk_cell (heap_alloc_new W1 _) j).trans (by simpa [trkCells] using hu)) (by omega) (by simp; omega) ?_; intro A2 c2' w3 hown hg2; have hput := (s9.out.alloc _).put hg hown hg2; clear hown hg2; obtain ⟨⟨hc3, hf3⟩, y3⟩ := hput; have y3 := Lib.hid y3)
      go_roundw
      · exact ⟨k - 1, _, A2, c2', by omega, by go_num, y3.out, by simp; omega, hall.out⟩
      · simp [intOf]; omega
    · have s1 := Lib.hid s0
      clear s0
      have hcase : k ≤ 0 ∨ (0 < k ∧ (nn : Int) ≤ 1) := by omega
      have hsm : ts.length ≤ 8 := by omega
      clear hgo
      rcases hcase with hk | ⟨hk, hk2⟩
      all_goals
        go_wp2_with fail
        refine (some_any g nn _ s1.out.kb.bag (by omega)).mono ?_
        rintro e v1 ⟨sA, sc, xs, rfl, hown, hasc, hK1⟩
        have s2 := Lib.hid (s1.out.kept hg hK1)
        have hrow := Lib.hid (own_weaken hown s1.out.big)
        clear x0 x1 x2 y0 y1 y2 z0 z1 z2 zb1 zb2 hown
        have hF2 := s2.out.facts
        obtain ⟨⟨x0, x1, x2⟩, ⟨y0, y1, y2⟩, z0, z1, z2, zb1, zb2⟩ := hF2
        go_wp2_with fail
        refine bodyPost_ret (v := .agg #[.int .i64 nn, .slice tA ts.length tc, .slice sA xs.length sc]) (by simp [results, Tryz.results32, go_sem, y0, y1, y2]) rfl ?_
        have hl := hasc.len
        exact ⟨⟨nn, ts, xs⟩, tA, sA, tc, sc, rfl,
          ownsRow_setCell_below (ownsRow_setCell_below (ownsRow_setCell_below (ownsRow_setCell_below s2.out.row (by simp) _) (by simp) _) (by simp) _) (by simp) _,
          ownsRow_setCell_below (ownsRow_setCell_below (ownsRow_setCell_below (ownsRow_setCell_below hrow.out (by simp) _) (by simp) _) (by simp) _) (by simp) _,
          ⟨dealt_check (by omega) (by omega) hsm herr hasc, hn1, by show (nn : Int) ≤ st; omega, by show (ts.length : Int) ≤ tk; omega, by show xs.length ≤ 6; omega⟩,
          (((s2.out.kb.setCell (by simp) hg _).setCell (by simp) hg _).setCell (by simp) hg _).setCell (by simp) hg _⟩
end Go.Proofs.YtpbjpochjagicaaGreat
