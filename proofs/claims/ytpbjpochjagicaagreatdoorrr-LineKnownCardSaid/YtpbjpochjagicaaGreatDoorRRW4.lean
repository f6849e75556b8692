/- Walks: the errors of cars and of questions. Walks: questions. -/
import Derived.Test.YtpbjpochjagicaaGreatDoorRRW3
namespace Go.Proofs.YtpbjpochjagicaaGreatDoorRR
open Go.RowKit

/-- A net reads, below block B. -/
structure NReads (w : World) (B : Nat) (n : Pl.Nt) (tA sA : Option Addr) (tc sc : Nat) : Prop where
  tracks : Trks w B tA n.tracks
  shops : Ints w B sA n.shops
  lenT : n.tracks.length ≤ 140737488355328
  lenS : n.shops.length ≤ 140737488355328
/-- A car reads, below block B. -/
structure CReads (w : World) (B : Nat) (c : Pl.Cch) (gA bA hA : Option Addr) (gc bc hc : Nat) : Prop where
  gauges : Ints w B gA c.gauges
  brakes : Ints w B bA c.brakes
  heats : Ints w B hA c.heats
  lenG : c.gauges.length ≤ 140737488355328
  lenB : c.brakes.length ≤ 140737488355328
  lenH : c.heats.length ≤ 140737488355328
section
variable {w w' : World} {B B' : Nat} {n : Pl.Nt} {c : Pl.Cch} {tA sA gA bA hA : Option Addr} {tc sc gc bc hc : Nat}
theorem NReads.keep (h : NReads w B n tA sA tc sc) (hk : ∀ p : Addr, p.block < B → w'.cell? p = w.cell? p) : NReads w' B n tA sA tc sc := ⟨h.tracks.keep hk, h.shops.keep hk, h.lenT, h.lenS⟩
theorem NReads.more (h : NReads w B n tA sA tc sc) (hB : B ≤ B') : NReads w B' n tA sA tc sc := ⟨h.tracks.more hB, h.shops.more hB, h.lenT, h.lenS⟩
theorem NReads.below (h : NReads w B n tA sA tc sc) (hb : Below B w w') : NReads w' B n tA sA tc sc := h.keep fun _ hp => hb.cell hp
theorem NReads.alloc (h : NReads w B n tA sA tc sc) (hB : B ≤ w.heap.size) (o : Obj) : NReads (w.alloc o) B n tA sA tc sc := h.keep fun p hp => World.cell?_alloc_lt w o p (by omega)
theorem CReads.keep (h : CReads w B c gA bA hA gc bc hc) (hk : ∀ p : Addr, p.block < B → w'.cell? p = w.cell? p) : CReads w' B c gA bA hA gc bc hc := ⟨h.gauges.keep hk, h.brakes.keep hk, h.heats.keep hk, h.lenG, h.lenB, h.lenH⟩
theorem CReads.more (h : CReads w B c gA bA hA gc bc hc) (hB : B ≤ B') : CReads w B' c gA bA hA gc bc hc := ⟨h.gauges.more hB, h.brakes.more hB, h.heats.more hB, h.lenG, h.lenB, h.lenH⟩
theorem CReads.below (h : CReads w B c gA bA hA gc bc hc) (hb : Below B w w') : CReads w' B c gA bA hA gc bc hc := h.keep fun _ hp => hb.cell hp
theorem CReads.alloc (h : CReads w B c gA bA hA gc bc hc) (hB : B ≤ w.heap.size) (o : Obj) : CReads (w.alloc o) B c gA bA hA gc bc hc := h.keep fun p hp => World.cell?_alloc_lt w o p (by omega)
end
/-- all old cells and old marks read as before -/
theorem bcell {W w1 : World} (hb : Below W.heap.size W w1) : (∀ b o, b < W.heap.size → w1.cell? ⟨b, o, none⟩ = W.cell? ⟨b, o, none⟩) ∧ (∀ b o, b < W.heap.size → w1.frozen? ⟨b, o, none⟩ = W.frozen? ⟨b, o, none⟩) :=
  ⟨fun b o h => hb.cell (p := ⟨b, o, none⟩) h, fun b o h => hb.frozen (p := ⟨b, o, none⟩) h⟩

def risErr (l : List Int) (h : Int) : Int := Pl.rising l 1 h 1
theorem risErr_def (l : List Int) (h : Int) : Pl.rising l 1 h 1 = risErr l h := rfl

set_option maxHeartbeats 1000000 in
theorem fits_any (c : Pl.Cch) (c_gA c_bA c_hA : Option Addr) (c_gc c_bc c_hc : Nat) (w : World) (hr : CReads w w.heap.size c c_gA c_bA c_hA c_gc c_bc c_hc) :
    Calls Tryz.prog 8 #[.agg #[.slice c_gA c.gauges.length c_gc, .int .i64 c.size, .int .i64 c.load, .slice c_bA c.brakes.length c_bc, .slice c_hA c.heats.length c_hc, .bool c.hooks]] w fun e w' => e = .returned (.int .i64 (Pl.fits c)) ∧ Below w.heap.size w w' := by
  have r1 := fun W => rising_any c_gA c_gc c.gauges 1 3 1 w.heap.size W
  have r2 := fun W => rising_any c_bA c_bc c.brakes 1 3 1 w.heap.size W
  have r3 := fun W => rising_any c_hA c_hc c.heats 1 3 1 w.heap.size W
  have hr' := hr.alloc (Nat.le_refl _) (.cells #[.slice c_gA c.gauges.length c_gc, .int .i64 c.size, .int .i64 c.load, .slice c_bA c.brakes.length c_bc, .slice c_hA c.heats.length c_hc, .bool c.hooks] 28)
  have lg := hr.lenG
  have lb := hr.lenB
  have lh := hr.lenH
  have R1 := Lib.hid r1; have R2 := Lib.hid r2; have R3 := Lib.hid r3; clear r1 r2 r3
  have Hr := Lib.hid hr'; clear hr' hr
  by_cases h0 : c.gauges.length = 0
  · have hN : Hid (Pl.fits c = 7) := by show _ = _; simp only [Pl.fits]; rw [if_pos (List.eq_nil_of_length_eq_zero h0)]
    have hb : ((c.gauges.length : Int) == 0) = true := by rw [beq_iff_eq]; omega
    have H0 := Lib.hid h0; clear h0
    go_enter Tryz.func8, Tryz.ntmps8
    go_wp2
    go_ret
    exact ⟨by rw [hN.out]; rfl, (Below.refl _ _).alloc (Nat.le_refl _) _⟩
  · have hb : ((c.gauges.length : Int) == 0) = false := by rw [beq_eq_false_iff_ne]; omega
    have hne : ¬ c.gauges = [] := fun h => h0 (by rw [h]; rfl)
    by_cases e1 : Pl.rising c.gauges 1 3 1 = 0
    · by_cases o1 : (Pl.out c.size 1 9 || Pl.out c.load 1 20) = true
      · have hN : Hid (Pl.fits c = 1) := by show _ = _; simp only [Pl.fits]; rw [if_neg hne, if_neg (by simp [e1]), if_pos o1]
        cases o2 : Pl.out c.size 1 9
        · have o3 : Pl.out c.load 1 20 = true := by simpa [o2] using o1
          clear h0 hne o1
          go_enter Tryz.func8, Tryz.ntmps8
          go_wp2_with (first | (go_at_call 23; refine (R1.out _ Hr.out.gauges (by omega)).mono ?_; rintro e w' ⟨rfl, rfl⟩) | (go_at_call 22; refine (out_any _ _ _ _).mono ?_; rintro e w' ⟨rfl, rfl⟩))
          go_ret
          exact ⟨by rw [hN.out]; rfl, (Below.refl _ _).alloc (Nat.le_refl _) _⟩
        · clear h0 hne o1
          go_enter Tryz.func8, Tryz.ntmps8
          go_wp2_with (first | (go_at_call 23; refine (R1.out _ Hr.out.gauges (by omega)).mono ?_; rintro e w' ⟨rfl, rfl⟩) | (go_at_call 22; refine (out_any _ _ _ _).mono ?_; rintro e w' ⟨rfl, rfl⟩))
          go_ret
          exact ⟨by rw [hN.out]; rfl, (Below.refl _ _).alloc (Nat.le_refl _) _⟩
      · have o2 : Pl.out c.size 1 9 = false := by cases h : Pl.out c.size 1 9 <;> simp_all
        have o3 : Pl.out c.load 1 20 = false := by cases h : Pl.out c.load 1 20 <;> simp_all
        by_cases e2 : Pl.rising c.brakes 1 3 1 = 0
        · have hN : Hid (Pl.fits c = Pl.rising c.heats 1 3 1) := by show _ = _; simp only [Pl.fits]; rw [if_neg hne, if_neg (by simp [e1]), if_neg o1, if_neg (by simp [e2])]
          clear h0 hne o1
          go_enter Tryz.func8, Tryz.ntmps8
          go_wp2_with fail
          refine (R1.out _ Hr.out.gauges (by omega)).mono ?_; rintro e w' ⟨rfl, rfl⟩
          go_wp2_with (first | (go_at_call 22; refine (out_any _ _ _ _).mono ?_; rintro e w' ⟨rfl, rfl⟩))
          refine (R2.out _ Hr.out.brakes (by omega)).mono ?_; rintro e w' ⟨rfl, rfl⟩
          go_wp2_with fail
          refine (R3.out _ Hr.out.heats (by omega)).mono ?_; rintro e w' ⟨rfl, rfl⟩
          go_wp2_with fail
          go_ret
          exact ⟨by rw [hN.out]; rfl, (Below.refl _ _).alloc (Nat.le_refl _) _⟩
        · have hN : Hid (Pl.fits c = Pl.rising c.brakes 1 3 1) := by show _ = _; simp only [Pl.fits]; rw [if_neg hne, if_neg (by simp [e1]), if_neg o1, if_pos (by simp [e2])]
          have hb2 : (Pl.rising c.brakes 1 3 1 != 0) = true := by rw [bne_iff_ne]; exact e2
          clear h0 hne o1 e2
          go_enter Tryz.func8, Tryz.ntmps8
          go_wp2_with fail
          refine (R1.out _ Hr.out.gauges (by omega)).mono ?_; rintro e w' ⟨rfl, rfl⟩
          go_wp2_with (first | (go_at_call 22; refine (out_any _ _ _ _).mono ?_; rintro e w' ⟨rfl, rfl⟩))
          refine (R2.out _ Hr.out.brakes (by omega)).mono ?_; rintro e w' ⟨rfl, rfl⟩
          go_wp2_with fail
          go_ret
          exact ⟨by rw [hN.out]; rfl, (Below.refl _ _).alloc (Nat.le_refl _) _⟩
    · have hN : Hid (Pl.fits c = Pl.rising c.gauges 1 3 1) := by show _ = _; simp only [Pl.fits]; rw [if_neg hne, if_pos (by simp [e1])]
      have hb2 : (Pl.rising c.gauges 1 3 1 != 0) = true := by rw [bne_iff_ne]; exact e1
      clear h0 hne e1
      go_enter Tryz.func8, Tryz.ntmps8
      go_wp2_with fail
      refine (R1.out _ Hr.out.gauges (by omega)).mono ?_; rintro e w' ⟨rfl, rfl⟩
      go_wp2_with fail
      go_ret
      exact ⟨by rw [hN.out]; rfl, (Below.refl _ _).alloc (Nat.le_refl _) _⟩
end Go.Proofs.YtpbjpochjagicaaGreatDoorRR

namespace Go.Proofs.YtpbjpochjagicaaGreatDoorRR
open Go.RowKit

set_option maxHeartbeats 1000000 in
theorem both_any (n : Pl.Nt) (n_tA n_sA : Option Addr) (n_tc n_sc : Nat) (c : Pl.Cch) (c_gA c_bA c_hA : Option Addr) (c_gc c_bc c_hc : Nat) (w : World) (hn : NReads w w.heap.size n n_tA n_sA n_tc n_sc) (hr : CReads w w.heap.size c c_gA c_bA c_hA c_gc c_bc c_hc) :
    Calls Tryz.prog 24 #[.agg #[.int .i64 n.stops, .slice n_tA n.tracks.length n_tc, .slice n_sA n.shops.length n_sc], .agg #[.slice c_gA c.gauges.length c_gc, .int .i64 c.size, .int .i64 c.load, .slice c_bA c.brakes.length c_bc, .slice c_hA c.heats.length c_hc, .bool c.hooks]] w fun e w' => e = .returned (.int .i64 (Pl.both n c)) ∧ Below w.heap.size w w' := by
  have hn' := (hn.alloc (Nat.le_refl _) (.cells #[.int .i64 n.stops, .slice n_tA n.tracks.length n_tc, .slice n_sA n.shops.length n_sc] 25)).alloc (by simp) (.cells #[.slice c_gA c.gauges.length c_gc, .int .i64 c.size, .int .i64 c.load, .slice c_bA c.brakes.length c_bc, .slice c_hA c.heats.length c_hc, .bool c.hooks] 28)
  have hr' := (hr.alloc (Nat.le_refl _) (.cells #[.int .i64 n.stops, .slice n_tA n.tracks.length n_tc, .slice n_sA n.shops.length n_sc] 25)).alloc (by simp) (.cells #[.slice c_gA c.gauges.length c_gc, .int .i64 c.size, .int .i64 c.load, .slice c_bA c.brakes.length c_bc, .slice c_hA c.heats.length c_hc, .bool c.hooks] 28)
  have Hn := Lib.hid (hn'.more (B' := w.heap.size + 1 + 1) (by omega)); have Hr := Lib.hid (hr'.more (B' := w.heap.size + 1 + 1) (by omega)); clear hn hn' hr hr'
  by_cases e1 : Pl.check n = 0
  · have hN : Hid (Pl.both n c = Pl.fits c) := by show _ = _; simp only [Pl.both]; rw [if_neg (by simp [e1])]
    go_enter Tryz.func24, Tryz.ntmps24
    go_wp2_with fail
    refine (check_any n n_tA n_sA n_tc n_sc _ (by simpa using Hn.out.tracks) (by simpa using Hn.out.shops) (by have := Hn.out.lenS; omega) (by have := Hn.out.lenT; omega)).mono ?_
    rintro e w1 ⟨rfl, hb⟩
    obtain ⟨hc, hf⟩ := bcell hb
    have hr2 := Hr.out.below (by simpa using hb)
    have hz : w.heap.size + 1 + 1 ≤ w1.heap.size := by have := hb.size; simp at this; omega
    have Hr2 := Lib.hid (hr2.more hz); clear hr2
    go_wp2_with fail
    refine (fits_any c c_gA c_bA c_hA c_gc c_bc c_hc _ Hr2.out).mono ?_
    rintro e w2 ⟨rfl, hb2⟩
    go_wp2_with fail
    go_ret
    exact ⟨by rw [hN.out]; rfl, ((((Below.refl _ _).alloc (Nat.le_refl _) _).alloc (by simp) _).trans (hb.mono (by simp; omega))).trans (hb2.mono (by omega))⟩
  · have hN : Hid (Pl.both n c = Pl.check n) := by show _ = _; simp only [Pl.both]; rw [if_pos e1]
    have hb2 : (Pl.check n != 0) = true := by rw [bne_iff_ne]; exact e1
    clear e1
    go_enter Tryz.func24, Tryz.ntmps24
    go_wp2_with fail
    refine (check_any n n_tA n_sA n_tc n_sc _ (by simpa using Hn.out.tracks) (by simpa using Hn.out.shops) (by have := Hn.out.lenS; omega) (by have := Hn.out.lenT; omega)).mono ?_
    rintro e w1 ⟨rfl, hb⟩
    go_wp2_with fail
    go_ret
    exact ⟨by rw [hN.out]; rfl, (((Below.refl _ _).alloc (Nat.le_refl _) _).alloc (by simp) _).trans (hb.mono (by simp; omega))⟩

theorem check_stops {n : Pl.Nt} (h : Pl.check n = 0) : 1 ≤ n.stops ∧ n.stops ≤ 6 := by
  have h1 : Pl.out n.stops 1 6 = false := by
    cases ho : Pl.out n.stops 1 6
    · rfl
    · simp [Pl.check, ho] at h
  simpa [Pl.out] using h1
theorem both_check {n : Pl.Nt} {c : Pl.Cch} (h : Pl.both n c = 0) : Pl.check n = 0 ∧ Pl.fits c = 0 := by
  by_cases h1 : Pl.check n = 0
  · exact ⟨h1, by simpa [Pl.both, h1] using h⟩
  · rw [Pl.both, if_pos h1] at h; exact absurd h h1

set_option maxHeartbeats 1000000 in
theorem question_any (n : Pl.Nt) (n_tA n_sA : Option Addr) (n_tc n_sc : Nat) (c : Pl.Cch) (c_gA c_bA c_hA : Option Addr) (c_gc c_bc c_hc : Nat) (fr g : Int) (w : World) (hn : NReads w w.heap.size n n_tA n_sA n_tc n_sc) (hr : CReads w w.heap.size c c_gA c_bA c_hA c_gc c_bc c_hc) :
    Calls Tryz.prog 26 #[.agg #[.int .i64 n.stops, .slice n_tA n.tracks.length n_tc, .slice n_sA n.shops.length n_sc], .agg #[.slice c_gA c.gauges.length c_gc, .int .i64 c.size, .int .i64 c.load, .slice c_bA c.brakes.length c_bc, .slice c_hA c.heats.length c_hc, .bool c.hooks], .int .i64 fr, .int .i64 g] w fun e w' => e = .returned (.int .i64 (Pl.question n c fr g)) ∧ Below w.heap.size w w' := by
  have hn' := (hn.alloc (Nat.le_refl _) (.cells #[.int .i64 n.stops, .slice n_tA n.tracks.length n_tc, .slice n_sA n.shops.length n_sc] 25)).alloc (by simp) (.cells #[.slice c_gA c.gauges.length c_gc, .int .i64 c.size, .int .i64 c.load, .slice c_bA c.brakes.length c_bc, .slice c_hA c.heats.length c_hc, .bool c.hooks] 28)
  have hr' := (hr.alloc (Nat.le_refl _) (.cells #[.int .i64 n.stops, .slice n_tA n.tracks.length n_tc, .slice n_sA n.shops.length n_sc] 25)).alloc (by simp) (.cells #[.slice c_gA c.gauges.length c_gc, .int .i64 c.size, .int .i64 c.load, .slice c_bA c.brakes.length c_bc, .slice c_hA c.heats.length c_hc, .bool c.hooks] 28)
  have lg := hr.lenG
  have Hn := Lib.hid (hn'.more (B' := w.heap.size + 1 + 1) (by omega)); have Hr := Lib.hid (hr'.more (B' := w.heap.size + 1 + 1) (by omega)); clear hn hn' hr hr'
  by_cases e1 : Pl.both n c = 0
  · have hst := check_stops (both_check e1).1
    obtain ⟨hlo, hhi⟩ := hst
    cases o1 : Pl.out fr 0 (n.stops - 1)
    · cases o2 : decide (g ∈ c.gauges)
      · have hN : Hid (Pl.question n c fr g = 3) := by show _ = _; have : g ∉ c.gauges := by simpa using o2
                                                       simp only [Pl.question]; rw [if_neg (by simp [e1]), if_pos (by simp [this])]
        go_enter Tryz.func26, Tryz.ntmps26
        go_wp2_with fail
        refine (both_any n n_tA n_sA n_tc n_sc c c_gA c_bA c_hA c_gc c_bc c_hc _ (by simpa using Hn.out) (by simpa using Hr.out)).mono ?_
        rintro e w1 ⟨rfl, hb⟩
        obtain ⟨hc, hf⟩ := bcell hb
        have Hr2 := Lib.hid (Hr.out.below (by simpa using hb))
        go_wp2_with (first | (go_at_call 28; refine (contains_any _ _ _ _ _ _ Hr2.out.gauges (by omega)).mono ?_; rintro e w' ⟨rfl, rfl⟩) | (go_at_call 22; refine (out_any _ _ _ _).mono ?_; rintro e w' ⟨rfl, rfl⟩))
        go_ret
        exact ⟨by rw [hN.out]; rfl, ((((Below.refl _ _).alloc (Nat.le_refl _) _).alloc (by simp) _).trans (hb.mono (by simp; omega)))⟩
      · have hN : Hid (Pl.question n c fr g = 0) := by show _ = _; have : g ∈ c.gauges := by simpa using o2
                                                       simp only [Pl.question]; rw [if_neg (by simp [e1]), if_neg (by simp [this, o1])]
        go_enter Tryz.func26, Tryz.ntmps26
        go_wp2_with fail
        refine (both_any n n_tA n_sA n_tc n_sc c c_gA c_bA c_hA c_gc c_bc c_hc _ (by simpa using Hn.out) (by simpa using Hr.out)).mono ?_
        rintro e w1 ⟨rfl, hb⟩
        obtain ⟨hc, hf⟩ := bcell hb
        have Hr2 := Lib.hid (Hr.out.below (by simpa using hb))
        go_wp2_with (first | (go_at_call 28; refine (contains_any _ _ _ _ _ _ Hr2.out.gauges (by omega)).mono ?_; rintro e w' ⟨rfl, rfl⟩) | (go_at_call 22; refine (out_any _ _ _ _).mono ?_; rintro e w' ⟨rfl, rfl⟩))
        go_ret
        exact ⟨by rw [hN.out]; rfl, ((((Below.refl _ _).alloc (Nat.le_refl _) _).alloc (by simp) _).trans (hb.mono (by simp; omega)))⟩
    · have hN : Hid (Pl.question n c fr g = 3) := by show _ = _; simp only [Pl.question]; rw [if_neg (by simp [e1]), if_pos (by simp [o1])]
      go_enter Tryz.func26, Tryz.ntmps26
      go_wp2_with fail
      refine (both_any n n_tA n_sA n_tc n_sc c c_gA c_bA c_hA c_gc c_bc c_hc _ (by simpa using Hn.out) (by simpa using Hr.out)).mono ?_
      rintro e w1 ⟨rfl, hb⟩
      obtain ⟨hc, hf⟩ := bcell hb
      go_wp2_with (first | (go_at_call 22; refine (out_any _ _ _ _).mono ?_; rintro e w' ⟨rfl, rfl⟩))
      go_ret
      exact ⟨by rw [hN.out]; rfl, ((((Below.refl _ _).alloc (Nat.le_refl _) _).alloc (by simp) _).trans (hb.mono (by simp; omega)))⟩
  · have hN : Hid (Pl.question n c fr g = Pl.both n c) := by show _ = _; simp only [Pl.question]; rw [if_pos e1]
    have hb2 : (Pl.both n c != 0) = true := by rw [bne_iff_ne]; exact e1
    clear e1
    go_enter Tryz.func26, Tryz.ntmps26
    go_wp2_with fail
    refine (both_any n n_tA n_sA n_tc n_sc c c_gA c_bA c_hA c_gc c_bc c_hc _ (by simpa using Hn.out) (by simpa using Hr.out)).mono ?_
    rintro e w1 ⟨rfl, hb⟩
    go_wp2_with fail
    go_ret
    exact ⟨by rw [hN.out]; rfl, (((Below.refl _ _).alloc (Nat.le_refl _) _).alloc (by simp) _).trans (hb.mono (by simp; omega))⟩
end Go.Proofs.YtpbjpochjagicaaGreatDoorRR
