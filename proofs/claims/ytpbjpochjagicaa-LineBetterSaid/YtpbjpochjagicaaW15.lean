/- Walks: the greatest number that will do; a car of another size. -/
import Derived.Test.YtpbjpochjagicaaW14
namespace Go.Proofs.Ytpbjpochjagicaa
open Go.RowKit

def greatVal (m : Int) : Value := .tuple #[.int .i64 m, .int .i64 (if m = 0 then 11 else 0)]
theorem greatVal_pos {m : Int} (h : m ≠ 0) : greatVal m = .tuple #[.int .i64 m, .int .i64 0] := by rw [greatVal, if_neg h]

set_option maxRecDepth 100000 in
set_option maxHeartbeats 1000000 in
theorem greatest_any (F : FuncId) (bv : Value) (p : Int → Bool) (n : Nat) (hn : n ≤ 1000) (w : World) (hF : ∀ (x : Value) (wr : World), Sem.run Try.prog (callFunc F #[bv, x]) wr = .ok (.enter F #[bv, x]) wr)
    (hC : ∀ (wr : World) (x : Int), Below w.heap.size w wr → 1 ≤ x → x ≤ n → Calls Try.prog F #[bv, .int .i64 x] wr fun e w' => e = .returned (.bool (p x)) ∧ Below w.heap.size wr w') :
    Calls Try.prog 99 #[.int .i64 n, .func (.func F) #[bv] #[]] w fun e w' => e = .returned (greatVal (Pl.greatest p n)) ∧ Below w.heap.size w w' := by
  have HC := Lib.hid hC; clear hC
  go_enter Try.func99, Try.ntmps99
  go_wp2_with fail
  go_loopw [6] (fun i wr => ∃ k : Nat, k ≤ n ∧ i = .int .i64 k ∧ Hid (Pl.greatest p n = Pl.greatest p k) ∧ Below w.heap.size w wr) (fun i _ => (intOf i).toNat)
  case atStart => exact ⟨n, Nat.le_refl _, rfl, rfl, Below.refl _ _⟩
  case round =>
    obtain ⟨k, hk, rfl, hg, hb⟩ := hrel
    rcases k with _ | k
    · have hN : Hid (Pl.greatest p n = 0) := hg.out
      clear hg
      go_wp2_with fail
      go_ret2
      exact ⟨by rw [hN.out]; rfl, hb⟩
    · have hst : Pl.greatest p (k + 1) = if p ((k : Int) + 1) then (k : Int) + 1 else Pl.greatest p k := rfl
      have hcall := HC.out wr ((k : Int) + 1) hb (by omega) (by omega)
      have HCall := Lib.hid hcall; clear hcall
      rw [show ((k + 1 : Nat) : Int) = (k : Int) + 1 by omega] at *
      cases hp : p ((k : Int) + 1)
      · have hN : Hid (Pl.greatest p n = Pl.greatest p k) := by show _ = _; rw [hg.out, hst, hp]; rfl
        rw [hp] at HCall
        clear hst hg
        go_wp2_with (refine HCall.out.mono ?_; rintro e w1 ⟨rfl, hb1⟩)
        go_roundw
        case rel => exact ⟨k, by omega, by go_num, hN, hb.trans hb1⟩
        case measure => simp [intOf]
      · have hN : Hid (Pl.greatest p n = (k : Int) + 1) := by show _ = _; rw [hg.out, hst, hp]; rfl
        rw [hp] at HCall
        clear hst hg
        go_wp2_with (refine HCall.out.mono ?_; rintro e w1 ⟨rfl, hb1⟩)
        go_ret2
        exact ⟨by rw [hN.out, greatVal_pos (by omega)]; rfl, hb.trans hb1⟩
theorem trial_at (w : World) (c : Pl.Cch) (c_gA c_bA c_hA : Option Addr) (c_gc c_bc c_hc : Nat) (n : Pl.Nt) (n_tA n_sA : Option Addr) (n_tc n_sc : Nat) {N : Nat} (rA : Option Addr) (rl rc : Nat) (p : Pl.Place) (ds : Int) (hN : w.heap[N]? = some (.cells #[.int .i64 n.stops, .slice n_tA n.tracks.length n_tc, .slice n_sA n.shops.length n_sc] 27 (0, 0))) (x : Int) :
    CarAt (w.alloc (.cells #[.slice c_gA c.gauges.length c_gc, .int .i64 x, .int .i64 c.load, .slice c_bA c.brakes.length c_bc, .slice c_hA c.heats.length c_hc, .bool c.hooks, .pointer (some ⟨N, 0, none⟩), .slice rA rl rc, .int .i64 p.1, .int .i64 p.2, .int .i64 ds] 141)) w.heap.size N { c with size := x } c_gA c_bA c_hA c_gc c_bc c_hc n n_tA n_sA n_tc n_sc rA rl rc := by
  refine ⟨⟨#[.int .i64 p.1, .int .i64 p.2, .int .i64 ds], 141, ?_⟩, blk_alloc hN _⟩
  simpa using heap_alloc_new w (.cells #[.slice c_gA c.gauges.length c_gc, .int .i64 x, .int .i64 c.load, .slice c_bA c.brakes.length c_bc, .slice c_hA c.heats.length c_hc, .bool c.hooks, .pointer (some ⟨N, 0, none⟩), .slice rA rl rc, .int .i64 p.1, .int .i64 p.2, .int .i64 ds] 141)

set_option maxHeartbeats 1000000 in
theorem size_any (N : Nat) (c : Pl.Cch) (c_gA c_bA c_hA : Option Addr) (c_gc c_bc c_hc : Nat) (n : Pl.Nt) (n_tA n_sA : Option Addr) (n_tc n_sc : Nat) (rA : Option Addr) (reb : List Int) (rc : Nat) (p : Pl.Place) (ds : Int) (w : World) (hN : w.heap[N]? = some (.cells #[.int .i64 n.stops, .slice n_tA n.tracks.length n_tc, .slice n_sA n.shops.length n_sc] 27 (0, 0)))
    (hr : CReads w w.heap.size c c_gA c_bA c_hA c_gc c_bc c_hc) (hn : NReads w w.heap.size n n_tA n_sA n_tc n_sc) (hreb : Ints w w.heap.size rA reb) (hrl : reb.length ≤ 140737488355328) (x : Int)
    (U : List Pl.Place) (hU : ∀ y, Pl.Gets (Pl.run n { c with size := x } reb) n.tracks.length p y → y ∈ U) (hUl : U.length ≤ 24) :
    Calls Try.prog 101 #[.agg #[.slice c_gA c.gauges.length c_gc, .int .i64 c.size, .int .i64 c.load, .slice c_bA c.brakes.length c_bc, .slice c_hA c.heats.length c_hc, .bool c.hooks, .pointer (some ⟨N, 0, none⟩), .slice rA reb.length rc, .int .i64 p.1, .int .i64 p.2, .int .i64 ds], .int .i64 x] w fun e w' => e = .returned (.bool (Pl.comes n { c with size := x } reb p ds)) ∧ Below w.heap.size w w' := by
  have hb : Below w.heap.size w (w.alloc (.cells #[.slice c_gA c.gauges.length c_gc, .int .i64 x, .int .i64 c.load, .slice c_bA c.brakes.length c_bc, .slice c_hA c.heats.length c_hc, .bool c.hooks, .pointer (some ⟨N, 0, none⟩), .slice rA reb.length rc, .int .i64 p.1, .int .i64 p.2, .int .i64 ds] 141)) := (Below.refl _ _).alloc (Nat.le_refl _) _
  have hA := trial_at w c c_gA c_bA c_hA c_gc c_bc c_hc n n_tA n_sA n_tc n_sc rA reb.length rc p ds hN x
  have hr' : CReads w w.heap.size { c with size := x } c_gA c_bA c_hA c_gc c_bc c_hc := ⟨hr.gauges, hr.brakes, hr.heats, hr.lenG, hr.lenB, hr.lenH⟩
  have HC := Lib.hid (comes_any w.heap.size N { c with size := x } c_gA c_bA c_hA c_gc c_bc c_hc n n_tA n_sA n_tc n_sc rA reb rc p ds _ hA ((hr'.below hb).more (by simp)) ((hn.below hb).more (by simp)) ((hreb.below hb).more (by simp)) hrl U hU hUl)
  have HB := Lib.hid hb
  clear hA hb hU hr hr' hn hreb hN
  go_enter Try.func101, Try.ntmps101
  go_wp2_with fail
  refine HC.out.mono ?_
  rintro e w1 ⟨rfl, hb1⟩
  simp only [World.size_alloc] at hb1
  go_wp2_with fail
  go_ret
  exact ⟨rfl, HB.out.trans (hb1.mono (by omega))⟩
end Go.Proofs.Ytpbjpochjagicaa
