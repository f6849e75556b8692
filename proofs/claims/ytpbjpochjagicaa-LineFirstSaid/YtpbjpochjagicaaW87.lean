/- Walks: the reference's question about a station: asked (by gen_ref4.py). -/
import Derived.Test.YtpbjpochjagicaaW79
namespace Go.Proofs.Ytpbjpochjagicaa
open Go.RowKit

set_option maxHeartbeats 2000000 in
theorem rasked_any (n : Pl.Nt) (n_tA n_sA : Option Addr) (n_tc n_sc : Nat) (c : Pl.Cch) (c_gA c_bA c_hA : Option Addr) (c_gc c_bc c_hc : Nat) (fr g ds : Int) (w : World) (hn : NReads w w.heap.size n n_tA n_sA n_tc n_sc) (hr : CReads w w.heap.size c c_gA c_bA c_hA c_gc c_bc c_hc) :
    Calls Try.prog 83 #[.agg #[.int .i64 n.stops, .slice n_tA n.tracks.length n_tc, .slice n_sA n.shops.length n_sc], .agg #[.slice c_gA c.gauges.length c_gc, .int .i64 c.size, .int .i64 c.load, .slice c_bA c.brakes.length c_bc, .slice c_hA c.heats.length c_hc, .bool c.hooks], .int .i64 fr, .int .i64 g, .int .i64 ds] w fun e w' => e = .returned (.int .i64 (Pl.asked n c fr g ds)) ∧ Below w.heap.size w w' := by
  have hn' := (hn.alloc (Nat.le_refl _) (.cells #[.int .i64 n.stops, .slice n_tA n.tracks.length n_tc, .slice n_sA n.shops.length n_sc] 27)).alloc (by simp) (.cells #[.slice c_gA c.gauges.length c_gc, .int .i64 c.size, .int .i64 c.load, .slice c_bA c.brakes.length c_bc, .slice c_hA c.heats.length c_hc, .bool c.hooks] 30)
  have hr' := (hr.alloc (Nat.le_refl _) (.cells #[.int .i64 n.stops, .slice n_tA n.tracks.length n_tc, .slice n_sA n.shops.length n_sc] 27)).alloc (by simp) (.cells #[.slice c_gA c.gauges.length c_gc, .int .i64 c.size, .int .i64 c.load, .slice c_bA c.brakes.length c_bc, .slice c_hA c.heats.length c_hc, .bool c.hooks] 30)
  have lg := hr.lenG
  have Hn := Lib.hid (hn'.more (B' := w.heap.size + 1 + 1) (by omega)); have Hr := Lib.hid (hr'.more (B' := w.heap.size + 1 + 1) (by omega)); clear hn hn' hr hr'
  by_cases e1 : Pl.both n c = 0
  · have hst := check_stops (both_check e1).1
    obtain ⟨hlo, hhi⟩ := hst
    cases o1 : Pl.out fr 0 (n.stops - 1)
    · cases o2 : decide (g ∈ c.gauges)
      · have hN : Hid (Pl.asked n c fr g ds = 3) := by show _ = _; have : g ∉ c.gauges := by simpa using o2
                                                       have hq : Pl.question n c fr g = 3 := by simp only [Pl.question]; rw [if_neg (by simp [e1]), if_pos (by simp [this])]
                                                       simp [Pl.asked, hq]
        go_enter Try.func83, Try.ntmps83
        go_wp2_with fail
        refine (rboth_any n n_tA n_sA n_tc n_sc c c_gA c_bA c_hA c_gc c_bc c_hc _ (by simpa using Hn.out) (by simpa using Hr.out)).mono ?_
        rintro e w1 ⟨rfl, hb⟩
        obtain ⟨hc, hf⟩ := bcell hb
        have Hr2 := Lib.hid (Hr.out.below (by simpa using hb))
        go_wp2_with (first | (go_at_call 88; refine (has_any c_gA c_gc c.gauges g _ _ Hr2.out.gauges (by omega)).mono ?_; rintro e w' ⟨rfl, rfl⟩) | (go_at_call 84; refine (among_any _ _ _ _).mono ?_; rintro e w' ⟨rfl, rfl⟩))
        go_ret
        exact ⟨by rw [hN.out]; rfl, ((((Below.refl _ _).alloc (Nat.le_refl _) _).alloc (by simp) _).trans (hb.mono (by simp; omega)))⟩
      · have hq : Pl.question n c fr g = 0 := by
          have : g ∈ c.gauges := by simpa using o2
          simp only [Pl.question]; rw [if_neg (by simp [e1]), if_neg (by simp [this, o1])]
        cases o3 : Pl.out ds 0 (n.stops - 1)
        · have hN : Hid (Pl.asked n c fr g ds = 0) := by show _ = _; simp [Pl.asked, hq, o3]
          clear hq
          go_enter Try.func83, Try.ntmps83
          go_wp2_with fail
          refine (rboth_any n n_tA n_sA n_tc n_sc c c_gA c_bA c_hA c_gc c_bc c_hc _ (by simpa using Hn.out) (by simpa using Hr.out)).mono ?_
          rintro e w1 ⟨rfl, hb⟩
          obtain ⟨hc, hf⟩ := bcell hb
          have Hr2 := Lib.hid (Hr.out.below (by simpa using hb))
          go_wp2_with (first | (go_at_call 88; refine (has_any c_gA c_gc c.gauges g _ _ Hr2.out.gauges (by omega)).mono ?_; rintro e w' ⟨rfl, rfl⟩) | (go_at_call 84; refine (among_any _ _ _ _).mono ?_; rintro e w' ⟨rfl, rfl⟩))
          go_ret
          exact ⟨by rw [hN.out]; rfl, ((((Below.refl _ _).alloc (Nat.le_refl _) _).alloc (by simp) _).trans (hb.mono (by simp; omega)))⟩
        · have hN : Hid (Pl.asked n c fr g ds = 3) := by show _ = _; simp [Pl.asked, hq, o3]
          clear hq
          go_enter Try.func83, Try.ntmps83
          go_wp2_with fail
          refine (rboth_any n n_tA n_sA n_tc n_sc c c_gA c_bA c_hA c_gc c_bc c_hc _ (by simpa using Hn.out) (by simpa using Hr.out)).mono ?_
          rintro e w1 ⟨rfl, hb⟩
          obtain ⟨hc, hf⟩ := bcell hb
          have Hr2 := Lib.hid (Hr.out.below (by simpa using hb))
          go_wp2_with (first | (go_at_call 88; refine (has_any c_gA c_gc c.gauges g _ _ Hr2.out.gauges (by omega)).mono ?_; rintro e w' ⟨rfl, rfl⟩) | (go_at_call 84; refine (among_any _ _ _ _).mono ?_; rintro e w' ⟨rfl, rfl⟩))
          go_ret
          exact ⟨by rw [hN.out]; rfl, ((((Below.refl _ _).alloc (Nat.le_refl _) _).alloc (by simp) _).trans (hb.mono (by simp; omega)))⟩
    · have hN : Hid (Pl.asked n c fr g ds = 3) := by show _ = _; have hq : Pl.question n c fr g = 3 := by simp only [Pl.question]; rw [if_neg (by simp [e1]), if_pos (by simp [o1])]
                                                     simp [Pl.asked, hq]
      go_enter Try.func83, Try.ntmps83
      go_wp2_with fail
      refine (rboth_any n n_tA n_sA n_tc n_sc c c_gA c_bA c_hA c_gc c_bc c_hc _ (by simpa using Hn.out) (by simpa using Hr.out)).mono ?_
      rintro e w1 ⟨rfl, hb⟩
      obtain ⟨hc, hf⟩ := bcell hb
      have Hr2 := Lib.hid (Hr.out.below (by simpa using hb))
      go_wp2_with (first | (go_at_call 88; refine (has_any c_gA c_gc c.gauges g _ _ Hr2.out.gauges (by omega)).mono ?_; rintro e w' ⟨rfl, rfl⟩) | (go_at_call 84; refine (among_any _ _ _ _).mono ?_; rintro e w' ⟨rfl, rfl⟩))
      go_ret
      exact ⟨by rw [hN.out]; rfl, ((((Below.refl _ _).alloc (Nat.le_refl _) _).alloc (by simp) _).trans (hb.mono (by simp; omega)))⟩
  · have hN : Hid (Pl.asked n c fr g ds = Pl.both n c) := by show _ = _; have hq : Pl.question n c fr g = Pl.both n c := by simp only [Pl.question]; rw [if_pos e1]
                                                             simp [Pl.asked, hq, e1]
    have hb2 : (Pl.both n c != 0) = true := by rw [bne_iff_ne]; exact e1
    clear e1
    go_enter Try.func83, Try.ntmps83
    go_wp2_with fail
    refine (rboth_any n n_tA n_sA n_tc n_sc c c_gA c_bA c_hA c_gc c_bc c_hc _ (by simpa using Hn.out) (by simpa using Hr.out)).mono ?_
    rintro e w1 ⟨rfl, hb⟩
    go_wp2_with fail
    go_ret
    exact ⟨by rw [hN.out]; rfl, (((Below.refl _ _).alloc (Nat.le_refl _) _).alloc (by simp) _).trans (hb.mono (by simp; omega))⟩
end Go.Proofs.Ytpbjpochjagicaa
