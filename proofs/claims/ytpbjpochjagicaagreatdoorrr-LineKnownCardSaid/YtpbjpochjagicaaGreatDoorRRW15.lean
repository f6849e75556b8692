/- Walks: the greatest number that will do; a car of another size. Where cars can come; Largest. -/
import Derived.Test.YtpbjpochjagicaaGreatDoorRRW14
import Derived.Deep.RegionHeld3
namespace Go.Proofs.YtpbjpochjagicaaGreatDoorRR
open Go.RowKit

def greatVal (m : Int) : Value := .tuple #[.int .i64 m, .int .i64 (if m = 0 then 11 else 0)]
theorem greatVal_pos {m : Int} (h : m ≠ 0) : greatVal m = .tuple #[.int .i64 m, .int .i64 0] := by rw [greatVal, if_neg h]

set_option maxRecDepth 100000 in
set_option maxHeartbeats 1000000 in
theorem greatest_any (F : FuncId) (bv : Value) (p : Int → Bool) (n : Nat) (hn : n ≤ 1000) (w : World) (hF : ∀ (x : Value) (wr : World), Sem.run Tryz.prog (callFunc F #[bv, x]) wr = .ok (.enter F #[bv, x]) wr)
    (hC : ∀ (wr : World) (x : Int), Below w.heap.size w wr → 1 ≤ x → x ≤ n → Calls Tryz.prog F #[bv, .int .i64 x] wr fun e w' => e = .returned (.bool (p x)) ∧ Below w.heap.size wr w') :
    Calls Tryz.prog 46 #[.int .i64 n, .func (.func F) #[bv] #[]] w fun e w' => e = .returned (greatVal (Pl.greatest p n)) ∧ Below w.heap.size w w' := by
  have HC := Lib.hid hC; clear hC
  go_enter Tryz.func46, Tryz.ntmps46
  go_wp2_with fail
  go_loopw [6] (fun i wr => ∃ k : Nat, k ≤ n ∧ i = .int .i64 k ∧ Hid (Pl.greatest p n = Pl.greatest p k) ∧ Below w.heap.size w wr) (fun i _ => (intOf i).toNat)
  case atStart => exact ⟨n, Nat.le_refl _, rfl, rfl, Below.refl _ _⟩
  case round =>
    obtain ⟨k, hk, rfl, hg, hb⟩ := hrel
    rcases k with _ | k
    · have hN : Hid (Pl.greatest p n = 0) := hg.out
      clear hg
      go_wp2_with fail
      go_ret2
      exact ⟨by rw [hN.out]; rfl, hb⟩
    · have hst : Pl.greatest p (k + 1) = if p ((k : Int) + 1) then (k : Int) + 1 else Pl.greatest p k := rfl
      have hcall := HC.out wr ((k : Int) + 1) hb (by omega) (by omega)
      have HCall := Lib.hid hcall; clear hcall
      rw [show ((k + 1 : Nat) : Int) = (k : Int) + 1 by omega] at *
      cases hp : p ((k : Int) + 1)
      · have hN : Hid (Pl.greatest p n = Pl.greatest p k) := by show _ = _; rw [hg.out, hst, hp]; rfl
        rw [hp] at HCall
        clear hst hg
        go_wp2_with (refine HCall.out.mono ?_; rintro e w1 ⟨rfl, hb1⟩)
        go_roundw
        case rel => exact ⟨k, by omega, by go_num, hN, hb.trans hb1⟩
        case measure => simp [intOf]
      · have hN : Hid (Pl.greatest p n = (k : Int) + 1) := by show _ = _; rw [hg.out, hst, hp]; rfl
        rw [hp] at HCall
        clear hst hg
        go_wp2_with (refine HCall.out.mono ?_; rintro e w1 ⟨rfl, hb1⟩)
        go_ret2
        exact ⟨by rw [hN.out, greatVal_pos (by omega)]; rfl, hb.trans hb1⟩
theorem trial_at (w : World) (c : Pl.Cch) (c_gA c_bA c_hA : Option Addr) (c_gc c_bc c_hc : Nat) (n : Pl.Nt) (n_tA n_sA : Option Addr) (n_tc n_sc : Nat) {N : Nat} (rA : Option Addr) (rl rc : Nat) (p : Pl.Place) (ds : Int) (hN : w.heap[N]? = some (.cells #[.int .i64 n.stops, .slice n_tA n.tracks.length n_tc, .slice n_sA n.shops.length n_sc] 25 (0, 0))) (x : Int) :
    CarAt (w.alloc (.cells #[.slice c_gA c.gauges.length c_gc, .int .i64 x, .int .i64 c.load, .slice c_bA c.brakes.length c_bc, .slice c_hA c.heats.length c_hc, .bool c.hooks, .pointer (some ⟨N, 0, none⟩), .slice rA rl rc, .int .i64 p.1, .int .i64 p.2, .int .i64 ds] 95)) w.heap.size N { c with size := x } c_gA c_bA c_hA c_gc c_bc c_hc n n_tA n_sA n_tc n_sc rA rl rc := by
  refine ⟨⟨#[.int .i64 p.1, .int .i64 p.2, .int .i64 ds], 95, ?_⟩, blk_alloc hN _⟩
  simpa using heap_alloc_new w (.cells #[.slice c_gA c.gauges.length c_gc, .int .i64 x, .int .i64 c.load, .slice c_bA c.brakes.length c_bc, .slice c_hA c.heats.length c_hc, .bool c.hooks, .pointer (some ⟨N, 0, none⟩), .slice rA rl rc, .int .i64 p.1, .int .i64 p.2, .int .i64 ds] 95)

set_option maxHeartbeats 1000000 in
theorem size_any (N : Nat) (c : Pl.Cch) (c_gA c_bA c_hA : Option Addr) (c_gc c_bc c_hc : Nat) (n : Pl.Nt) (n_tA n_sA : Option Addr) (n_tc n_sc : Nat) (rA : Option Addr) (reb : List Int) (rc : Nat) (p : Pl.Place) (ds : Int) (w : World) (hN : w.heap[N]? = some (.cells #[.int .i64 n.stops, .slice n_tA n.tracks.length n_tc, .slice n_sA n.shops.length n_sc] 25 (0, 0)))
    (hr : CReads w w.heap.size c c_gA c_bA c_hA c_gc c_bc c_hc) (hn : NReads w w.heap.size n n_tA n_sA n_tc n_sc) (hreb : Ints w w.heap.size rA reb) (hrl : reb.length ≤ 140737488355328) (x : Int)
    (U : List Pl.Place) (hU : ∀ y, Pl.Gets (Pl.run n { c with size := x } reb) n.tracks.length p y → y ∈ U) (hUl : U.length ≤ 24) :
    Calls Tryz.prog 52 #[.agg #[.slice c_gA c.gauges.length c_gc, .int .i64 c.size, .int .i64 c.load, .slice c_bA c.brakes.length c_bc, .slice c_hA c.heats.length c_hc, .bool c.hooks, .pointer (some ⟨N, 0, none⟩), .slice rA reb.length rc, .int .i64 p.1, .int .i64 p.2, .int .i64 ds], .int .i64 x] w fun e w' => e = .returned (.bool (Pl.comes n { c with size := x } reb p ds)) ∧ Below w.heap.size w w' := by
  have hb : Below w.heap.size w (w.alloc (.cells #[.slice c_gA c.gauges.length c_gc, .int .i64 x, .int .i64 c.load, .slice c_bA c.brakes.length c_bc, .slice c_hA c.heats.length c_hc, .bool c.hooks, .pointer (some ⟨N, 0, none⟩), .slice rA reb.length rc, .int .i64 p.1, .int .i64 p.2, .int .i64 ds] 95)) := (Below.refl _ _).alloc (Nat.le_refl _) _
  have hA := trial_at w c c_gA c_bA c_hA c_gc c_bc c_hc n n_tA n_sA n_tc n_sc rA reb.length rc p ds hN x
  have hr' : CReads w w.heap.size { c with size := x } c_gA c_bA c_hA c_gc c_bc c_hc := ⟨hr.gauges, hr.brakes, hr.heats, hr.lenG, hr.lenB, hr.lenH⟩
  have HC := Lib.hid (comes_any w.heap.size N { c with size := x } c_gA c_bA c_hA c_gc c_bc c_hc n n_tA n_sA n_tc n_sc rA reb rc p ds _ hA ((hr'.below hb).more (by simp)) ((hn.below hb).more (by simp)) ((hreb.below hb).more (by simp)) hrl U hU hUl)
  have HB := Lib.hid hb
  clear hA hb hU hr hr' hn hreb hN
  go_enter Tryz.func52, Tryz.ntmps52
  go_wp2_with fail
  refine HC.out.mono ?_
  rintro e w1 ⟨rfl, hb1⟩
  simp only [World.size_alloc] at hb1
  go_wp2_with fail
  go_ret
  exact ⟨rfl, HB.out.trans (hb1.mono (by omega))⟩
end Go.Proofs.YtpbjpochjagicaaGreatDoorRR

namespace Go.Proofs.YtpbjpochjagicaaGreatDoorRR
open Go.RowKit

/-- All stations with all gauges. -/
def places : List Pl.Place := (Pl.nums 6).flatMap fun s => [(s, 0), (s, 1), (s, 2), (s, 3)]
theorem places_length : places.length ≤ 24 := by decide
theorem mem_places {p : Pl.Place} (h1 : 0 ≤ p.1) (h2 : p.1 < 6) (h3 : 0 ≤ p.2) (h4 : p.2 ≤ 3) : p ∈ places := by
  obtain ⟨s, g⟩ := p
  have hs : s = 0 ∨ s = 1 ∨ s = 2 ∨ s = 3 ∨ s = 4 ∨ s = 5 := by simp at h1 h2; omega
  have hg : g = 0 ∨ g = 1 ∨ g = 2 ∨ g = 3 := by simp at h3 h4; omega
  rcases hs with rfl | rfl | rfl | rfl | rfl | rfl <;> rcases hg with rfl | rfl | rfl | rfl <;> decide

theorem out_false {n lo hi : Int} (h : Pl.out n lo hi = false) : lo ≤ n ∧ n ≤ hi := by
  simp [Pl.out] at h; omega
theorem tracks_ok {s : Int} : ∀ {l : List Pl.Trk}, Pl.tracksErr s l = 0 → ∀ t ∈ l, Pl.trackErr s t = 0
  | [], _, t, ht => by simp at ht
  | u :: l, h, t, ht => by
    rw [Pl.tracksErr] at h
    by_cases hu : Pl.trackErr s u = 0
    · rw [if_pos hu] at h
      rcases List.mem_cons.1 ht with rfl | ht
      · exact hu
      · exact tracks_ok h t ht
    · rw [if_neg hu] at h; exact absurd h hu
structure TrkOk (s : Int) (t : Pl.Trk) : Prop where
  a0 : 0 ≤ t.a
  a1 : t.a ≤ s - 1
  b0 : 0 ≤ t.b
  b1 : t.b ≤ s - 1
  ab : t.a ≠ t.b
  km0 : 1 ≤ t.km
  km1 : t.km ≤ 99
  g0 : 1 ≤ t.gauge
  g1 : t.gauge ≤ 3
theorem trk_ok {s : Int} {t : Pl.Trk} (h : Pl.trackErr s t = 0) : TrkOk s t := by
  unfold Pl.trackErr at h
  split at h
  · simp at h
  · rename_i h1
    split at h
    · simp at h
    · rename_i h2
      split at h
      · simp at h
      · rename_i h3
        simp only [Bool.or_eq_true, not_or, Bool.not_eq_true] at h1 h3
        have q1 := out_false h1.1; have q2 := out_false h1.2
        have q3 := out_false h3.1.1.1.1.1; have q4 := out_false h3.1.1.1.1.2
        exact ⟨q1.1, q1.2, q2.1, q2.2, h2, q3.1, q3.2, q4.1, q4.2⟩
theorem check_tracks {n : Pl.Nt} (h : Pl.check n = 0) : n.tracks.length ≤ 8 ∧ ∀ t ∈ n.tracks, TrkOk n.stops t := by
  unfold Pl.check at h
  split at h
  · simp at h
  · split at h
    · simp at h
    · rename_i h2
      refine ⟨by omega, fun t ht => trk_ok ?_⟩
      split at h
      · rename_i h3; exact tracks_ok h3 t ht
      · rename_i h3; exact absurd h h3

theorem runTo_in {shops : List Int} {c : Pl.Cch} {reb : Bool} {p : Pl.Place} {t : Pl.Trk} {s st : Int} (ht : TrkOk st t) (hp : 0 ≤ p.2 ∧ p.2 ≤ 3) (hs : 0 ≤ s ∧ s ≤ st - 1) (h : (Pl.runTo shops c reb p t s).2.2 = 0) :
    0 ≤ (Pl.runTo shops c reb p t s).1.1 ∧ (Pl.runTo shops c reb p t s).1.1 ≤ st - 1 ∧ 0 ≤ (Pl.runTo shops c reb p t s).1.2 ∧ (Pl.runTo shops c reb p t s).1.2 ≤ 3 := by
  have h1 := ht.g0; have h2 := ht.g1; have h3 := ht.a0; have h4 := ht.a1
  unfold Pl.runTo at h ⊢
  cases reb
  · simp only [Bool.false_eq_true, if_false] at h ⊢
    cases hb : Pl.barred c t with
    | cons b l => simp; omega
    | nil =>
      rw [hb] at h
      simp only at h ⊢
      split
      · simp; omega
      · simp; omega
  · simp; omega
theorem runT_in {shops : List Int} {c : Pl.Cch} {reb : Bool} {p : Pl.Place} {t : Pl.Trk} {st : Int} (ht : TrkOk st t) (hp : 0 ≤ p.2 ∧ p.2 ≤ 3) (h : (Pl.runT shops c reb p t).2.2 = 0) :
    0 ≤ (Pl.runT shops c reb p t).1.1 ∧ (Pl.runT shops c reb p t).1.1 ≤ st - 1 ∧ 0 ≤ (Pl.runT shops c reb p t).1.2 ∧ (Pl.runT shops c reb p t).1.2 ≤ 3 := by
  unfold Pl.runT at h ⊢
  split
  · rename_i h1; rw [if_pos h1] at h; exact runTo_in ht hp ⟨ht.b0, ht.b1⟩ h
  · rename_i h1
    rw [if_neg h1] at h
    split
    · rename_i h2; rw [if_pos h2] at h; exact runTo_in ht hp ⟨ht.a0, ht.a1⟩ h
    · rename_i h2; rw [if_neg h2] at h; simp at h
theorem gets_in {n : Pl.Nt} {c : Pl.Cch} {reb : List Int} {p : Pl.Place} (hn : Pl.check n = 0) (h1 : 0 ≤ p.1) (h2 : p.1 ≤ n.stops - 1) (h3 : 0 ≤ p.2) (h4 : p.2 ≤ 3) :
    ∀ y, Pl.Gets (Pl.run n c reb) n.tracks.length p y → y ∈ places := by
  have hk : ∀ y, Pl.Gets (Pl.run n c reb) n.tracks.length p y → 0 ≤ y.1 ∧ y.1 ≤ n.stops - 1 ∧ 0 ≤ y.2 ∧ y.2 ≤ 3 := by
    intro y hy
    induction hy with
    | refl => exact ⟨h1, h2, h3, h4⟩
    | step hx hi hr ih =>
      rw [run_at hi] at hr ⊢
      exact runT_in ((check_tracks hn).2 _ (List.getElem_mem hi)) ⟨ih.2.2.1, ih.2.2.2⟩ hr
  intro y hy
  have := hk y hy
  have hs := check_stops hn
  exact mem_places this.1 (by omega) this.2.2.1 this.2.2.2

theorem rising_all {lo hi oe : Int} (ho : oe ≠ 0) : ∀ {l : List Int} {prev : Option Int}, Pl.risingFrom lo hi oe prev l = 0 → (∀ x ∈ l, lo ≤ x ∧ x ≤ hi) ∧ l.Pairwise (· < ·) ∧ (∀ q, prev = some q → ∀ x ∈ l, q < x)
  | [], prev, _ => ⟨by simp, List.Pairwise.nil, by simp⟩
  | n :: l, prev, h => by
    rw [Pl.risingFrom.eq_def] at h
    simp only at h
    split at h
    · exact absurd h ho
    · rename_i h1
      have h1' := out_false (by simpa using h1)
      have hrest : Pl.risingFrom lo hi oe (some n) l = 0 ∧ ∀ q, prev = some q → q < n := by
        cases prev with
        | none => exact ⟨by simpa using h, by simp⟩
        | some p =>
          by_cases hp : n ≤ p
          · simp [hp] at h
          · simp [hp] at h; exact ⟨h, fun q hq => by injection hq with hq; omega⟩
      obtain ⟨i1, i2, i3⟩ := rising_all ho hrest.1
      refine ⟨fun x hx => ?_, List.pairwise_cons.2 ⟨fun x hx => i3 n rfl x hx, i2⟩, fun q hq x hx => ?_⟩
      · rcases List.mem_cons.1 hx with rfl | hx
        · exact h1'
        · exact i1 x hx
      · have hqn := hrest.2 q hq
        rcases List.mem_cons.1 hx with rfl | hx
        · exact hqn
        · have := i3 n rfl x hx; omega
theorem short_of_bound {l : List Int} : ∀ {lo : Int} {k : Nat}, l.Pairwise (· < ·) → (∀ x ∈ l, lo ≤ x ∧ x < lo + k) → l.length ≤ k := by
  induction l with
  | nil => intros; simp
  | cons y l ih =>
    intro lo k hp hb
    have hy := hb y (by simp)
    rcases k with _ | k
    · omega
    · have := ih (lo := lo + 1) (k := k) (List.pairwise_cons.1 hp).2 (fun x hx => by have := hb x (by simp [hx]); have := (List.pairwise_cons.1 hp).1 x hx; omega)
      simp; omega
theorem fits_lists {c : Pl.Cch} (h : Pl.fits c = 0) : (∀ x ∈ c.gauges, 1 ≤ x ∧ x ≤ 3) ∧ Fine c 3 := by
  unfold Pl.fits at h
  split at h
  · simp at h
  · split at h
    · rename_i h1; exact absurd h h1
    · rename_i h1
      split at h
      · simp at h
      · split at h
        · rename_i h2; exact absurd h h2
        · rename_i h2
          have r1 := rising_all (by omega) (Decidable.not_not.1 h1)
          have r2 := rising_all (by omega) (Decidable.not_not.1 h2)
          have r3 := rising_all (by omega) h
          exact ⟨r1.1, ⟨r1.2.1.imp (by omega), r2.2.1.imp (by omega), r3.2.1.imp (by omega),
            short_of_bound (lo := 1) r1.2.1 (fun x hx => by have := r1.1 x hx; omega), short_of_bound (lo := 1) r2.2.1 (fun x hx => by have := r2.1 x hx; omega), short_of_bound (lo := 1) r3.2.1 (fun x hx => by have := r3.1 x hx; omega)⟩⟩

/-- From a place that was asked of, all that can be reached is listed, for whatever car. -/
theorem asked_in {n : Pl.Nt} {c c' : Pl.Cch} {fr g ds : Int} {reb : List Int} (h : Pl.asked n c fr g ds = 0) : ∀ y, Pl.Gets (Pl.run n c' reb) n.tracks.length (fr, g) y → y ∈ places := by
  obtain ⟨h1, h2, h3⟩ := question_b (asked_q h).1
  obtain ⟨hc, hf⟩ := both_check h1
  have hg := (fits_lists hf).1 g h3
  have ho := out_false h2
  exact gets_in hc ho.1 ho.2 (by simp; omega) (by simp; omega)

def largeVal (n : Pl.Nt) (c : Pl.Cch) (fr g ds : Int) : Value := if Pl.asked n c fr g ds ≠ 0 then .tuple #[.int .i64 0, .int .i64 (Pl.asked n c fr g ds)] else greatVal (Pl.largest n c fr g ds)
theorem size_enter (bv x : Value) (wr : World) : Sem.run Tryz.prog (callFunc 52 #[bv, x]) wr = .ok (.enter 52 #[bv, x]) wr := by kernel_rfl

set_option maxRecDepth 100000 in
set_option maxHeartbeats 4000000 in
theorem largest_any (n : Pl.Nt) (n_tA n_sA : Option Addr) (n_tc n_sc : Nat) (c : Pl.Cch) (c_gA c_bA c_hA : Option Addr) (c_gc c_bc c_hc : Nat) (fr g ds : Int) (w : World) (hn : NReads w w.heap.size n n_tA n_sA n_tc n_sc) (hr : CReads w w.heap.size c c_gA c_bA c_hA c_gc c_bc c_hc) :
    Calls Tryz.prog 21 #[.agg #[.int .i64 n.stops, .slice n_tA n.tracks.length n_tc, .slice n_sA n.shops.length n_sc], .agg #[.slice c_gA c.gauges.length c_gc, .int .i64 c.size, .int .i64 c.load, .slice c_bA c.brakes.length c_bc, .slice c_hA c.heats.length c_hc, .bool c.hooks], .int .i64 fr, .int .i64 g, .int .i64 ds] w fun e w' => e = .returned (largeVal n c fr g ds) ∧ Below w.heap.size w w' := by
  have hb2 : Below w.heap.size w ((w.alloc (.cells #[.int .i64 n.stops, .slice n_tA n.tracks.length n_tc, .slice n_sA n.shops.length n_sc] 25)).alloc (.cells #[.slice c_gA c.gauges.length c_gc, .int .i64 c.size, .int .i64 c.load, .slice c_bA c.brakes.length c_bc, .slice c_hA c.heats.length c_hc, .bool c.hooks] 28)) := ((Below.refl _ _).alloc (Nat.le_refl _) _).alloc (by simp) _
  have hsz : ((w.alloc (.cells #[.int .i64 n.stops, .slice n_tA n.tracks.length n_tc, .slice n_sA n.shops.length n_sc] 25)).alloc (.cells #[.slice c_gA c.gauges.length c_gc, .int .i64 c.size, .int .i64 c.load, .slice c_bA c.brakes.length c_bc, .slice c_hA c.heats.length c_hc, .bool c.hooks] 28)).heap.size = w.heap.size + 1 + 1 := by simp
  have Hn := Lib.hid ((hn.below hb2).more (B' := w.heap.size + 1 + 1) (by omega))
  have Hr := Lib.hid ((hr.below hb2).more (B' := w.heap.size + 1 + 1) (by omega))
  have HB2 := Lib.hid hb2; clear hb2 hn hr
  by_cases hA : Pl.asked n c fr g ds = 0
  · have hU := fun x => asked_in (c' := { c with size := x }) (reb := []) hA
    have HN : Hid (largeVal n c fr g ds = greatVal (Pl.largest n c fr g ds)) := by show _ = _; rw [largeVal, if_neg (by simp [hA])]
    have HQ := Lib.hid (asked_yes n n_tA n_sA n_tc n_sc c c_gA c_bA c_hA c_gc c_bc c_hc fr g ds _ (by rw [hsz]; exact Hn.out) (by rw [hsz]; exact Hr.out) hA)
    have HU := Lib.hid hU
    clear hA hU hsz
    go_enter Tryz.func21, Tryz.ntmps21
    go_wp2_with fail
    refine HQ.out.mono ?_
    rintro e w1 ⟨X, N, rfl, hcar, hX, hN, hb⟩
    clear HQ
    obtain ⟨x0, x1, x2, x3, x4, x5, x6, x7⟩ := And.intro hcar.c0 (And.intro hcar.c1 (And.intro hcar.c2 (And.intro hcar.c3 (And.intro hcar.c4 (And.intro hcar.c5 (And.intro hcar.c6 hcar.c7))))))
    have hXs := hcar.ltX
    have Hcar := Lib.hid hcar; have Hb := Lib.hid hb
    clear hcar hb
    go_wp2_with fail
    have hWb : Below w.heap.size w (w1.alloc (.cells #[.int .i64 fr, .int .i64 g] 64)).drew := by
      have := (HB2.out.trans (Hb.out.mono (by simp; omega))).alloc (by simp at hX; omega) (.cells #[.int .i64 fr, .int .i64 g] 64)
      exact ⟨this.os, this.tape, this.output, this.size, this.block⟩
    have hg := greatest_any 52 (.agg #[.slice c_gA c.gauges.length c_gc, .int .i64 c.size, .int .i64 c.load, .slice c_bA c.brakes.length c_bc, .slice c_hA c.heats.length c_hc, .bool c.hooks, .pointer (some ⟨N, 0, none⟩), .slice none 0 0, .int .i64 fr, .int .i64 g, .int .i64 ds])
      (fun x => Pl.comes n { c with size := x } [] (fr, g) ds) 9 (by omega) (w1.alloc (.cells #[.int .i64 fr, .int .i64 g] 64)).drew (fun x wr => size_enter _ x wr) (fun wr x hbr _ _ => by
        have hNr : wr.heap[N]? = some (.cells #[.int .i64 n.stops, .slice n_tA n.tracks.length n_tc, .slice n_sA n.shops.length n_sc] 25 (0, 0)) := blk_below (show (w1.alloc (.cells #[.int .i64 fr, .int .i64 g] 64)).drew.heap[N]? = _ from blk_alloc Hcar.out.net _) hbr (by have := Hcar.out.ltN; simp [World.drew]; omega)
        have hW1 : Below (w.heap.size + 1 + 1) ((w.alloc (.cells #[.int .i64 n.stops, .slice n_tA n.tracks.length n_tc, .slice n_sA n.shops.length n_sc] 25)).alloc (.cells #[.slice c_gA c.gauges.length c_gc, .int .i64 c.size, .int .i64 c.load, .slice c_bA c.brakes.length c_bc, .slice c_hA c.heats.length c_hc, .bool c.hooks] 28)) wr := by
          refine (Hb.out.mono (by simp)).trans (Below.trans (b := (w1.alloc (.cells #[.int .i64 fr, .int .i64 g] 64)).drew) ?_ (hbr.mono (by simp [World.drew]; simp at hX; omega)))
          have := (Below.refl (w.heap.size + 1 + 1) w1).alloc (by simp at hX; omega) (.cells #[.int .i64 fr, .int .i64 g] 64)
          exact ⟨this.os, this.tape, this.output, this.size, this.block⟩
        have hsr : w.heap.size + 1 + 1 ≤ wr.heap.size := by have := hW1.size; simpa using this
        exact (size_any N c c_gA c_bA c_hA c_gc c_bc c_hc n n_tA n_sA n_tc n_sc none [] 0 (fr, g) ds wr hNr ((Hr.out.below hW1).more hsr) ((Hn.out.below hW1).more hsr) (Ints.nil _ _ _) (by simp) x places (HU.out x) places_length).mono fun e w' ⟨h1, h2⟩ => ⟨h1, h2.mono hbr.size⟩)
    have HG := Lib.hid hg; have HWb := Lib.hid hWb; clear hg hWb
    have y0 : (w1.alloc (.cells #[.int .i64 fr, .int .i64 g] 64)).cell? ⟨w1.heap.size, 0, none⟩ = some (.int .i64 fr) := blk_cell (heap_alloc_new w1 _) 0
    have y1 : (w1.alloc (.cells #[.int .i64 fr, .int .i64 g] 64)).cell? ⟨w1.heap.size, 1, none⟩ = some (.int .i64 g) := blk_cell (heap_alloc_new w1 _) 1
    obtain ⟨v, hv⟩ : ∃ v, greatVal (Pl.greatest (fun x => Pl.comes n { c with size := x } [] (fr, g) ds) 9) = .tuple #[.int .i64 (Pl.largest n c fr g ds), .int .i64 v] := ⟨_, rfl⟩
    have HV := Lib.hid (HN.out.trans hv)
    have Hv := Lib.hid hv
    clear hv
    have hk : ∀ w', Below (w1.alloc (.cells #[.int .i64 fr, .int .i64 g] 64)).drew.heap.size (w1.alloc (.cells #[.int .i64 fr, .int .i64 g] 64)).drew w' → w'.cell? ⟨X, 0, none⟩ = some (.slice c_gA c.gauges.length c_gc) ∧ w'.cell? ⟨X, 1, none⟩ = some (.int .i64 c.size) ∧ w'.cell? ⟨X, 2, none⟩ = some (.int .i64 c.load) ∧
        w'.cell? ⟨X, 3, none⟩ = some (.slice c_bA c.brakes.length c_bc) ∧ w'.cell? ⟨X, 4, none⟩ = some (.slice c_hA c.heats.length c_hc) ∧ w'.cell? ⟨X, 5, none⟩ = some (.bool c.hooks) ∧
        w'.cell? ⟨X, 6, none⟩ = some (.pointer (some ⟨N, 0, none⟩)) ∧ w'.cell? ⟨X, 7, none⟩ = some (.slice none 0 0) ∧ w'.cell? ⟨w1.heap.size, 0, none⟩ = some (.int .i64 fr) ∧ w'.cell? ⟨w1.heap.size, 1, none⟩ = some (.int .i64 g) := by
      intro w' hb'
      have hX' : X < (w1.alloc (.cells #[.int .i64 fr, .int .i64 g] 64)).drew.heap.size := by simp [World.drew]; omega
      have hP' : w1.heap.size < (w1.alloc (.cells #[.int .i64 fr, .int .i64 g] 64)).drew.heap.size := by simp [World.drew]
      have hc : ∀ i, w'.cell? ⟨X, i, none⟩ = w1.cell? ⟨X, i, none⟩ := fun i => (hb'.cell (p := ⟨X, i, none⟩) hX').trans (World.cell?_alloc_lt w1 _ ⟨X, i, none⟩ hXs)
      have hd : ∀ i, w'.cell? ⟨w1.heap.size, i, none⟩ = (w1.alloc (.cells #[.int .i64 fr, .int .i64 g] 64)).cell? ⟨w1.heap.size, i, none⟩ := fun i => hb'.cell (p := ⟨w1.heap.size, i, none⟩) hP'
      exact ⟨(hc 0).trans x0, (hc 1).trans x1, (hc 2).trans x2, (hc 3).trans x3, (hc 4).trans x4, (hc 5).trans x5, (hc 6).trans x6, (hc 7).trans x7, (hd 0).trans y0, (hd 1).trans y1⟩
    have HK := Lib.hid hk; clear hk
    go_region_held3 (fun w' => w'.cell? ⟨X, 0, none⟩ = some (.slice c_gA c.gauges.length c_gc) ∧ w'.cell? ⟨X, 1, none⟩ = some (.int .i64 c.size) ∧ w'.cell? ⟨X, 2, none⟩ = some (.int .i64 c.load) ∧
        w'.cell? ⟨X, 3, none⟩ = some (.slice c_bA c.brakes.length c_bc) ∧ w'.cell? ⟨X, 4, none⟩ = some (.slice c_hA c.heats.length c_hc) ∧ w'.cell? ⟨X, 5, none⟩ = some (.bool c.hooks) ∧
        w'.cell? ⟨X, 6, none⟩ = some (.pointer (some ⟨N, 0, none⟩)) ∧ w'.cell? ⟨X, 7, none⟩ = some (.slice none 0 0) ∧ w'.cell? ⟨w1.heap.size, 0, none⟩ = some (.int .i64 fr) ∧ w'.cell? ⟨w1.heap.size, 1, none⟩ = some (.int .i64 g))
      (first
        | go_keep
        | exact hS)
      (first | (go_at_call 46; refine HG.out.mono ?_; rintro e w2 ⟨rfl, hb2⟩; have hS := HK.out w2 hb2; rw [Hv.out]))
    have HW2 := Lib.hid (HWb.out.trans (hb2.mono HWb.out.size))
    clear hb2 HG
    go_wp2_with fail
    go_ret2
    exact ⟨by rw [HV.out]; rfl, HW2.out⟩
  · have HN : Hid (largeVal n c fr g ds = .tuple #[.int .i64 0, .int .i64 (Pl.asked n c fr g ds)]) := by show _ = _; rw [largeVal, if_pos hA]
    have HQ := Lib.hid (asked_no n n_tA n_sA n_tc n_sc c c_gA c_bA c_hA c_gc c_bc c_hc fr g ds _ (by rw [hsz]; exact Hn.out) (by rw [hsz]; exact Hr.out) hA)
    have hb : (Pl.asked n c fr g ds != 0) = true := by rw [bne_iff_ne]; exact hA
    clear hA hsz
    go_enter Tryz.func21, Tryz.ntmps21
    go_wp2_with fail
    refine HQ.out.mono ?_
    rintro e w1 ⟨rfl, hb1⟩
    have HW := Lib.hid (HB2.out.trans (hb1.mono (by simp; omega)))
    have hs := HW.out.size
    clear hb1
    go_wp2_with fail
    go_ret2
    exact ⟨by rw [HN.out]; rfl, HW.out.alloc hs _⟩
end Go.Proofs.YtpbjpochjagicaaGreatDoorRR
