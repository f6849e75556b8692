/- Plain laws for LineBetter: a net with a line more, or shops more; a better car. -/
import Derived.Test.YtpbjpochjagicaaW49
import Derived.Test.YtpbjpochjagicaaBt
import Derived.Test.YtpbjpochjagicaaGv
namespace Go.Proofs.Ytpbjpochjagicaa.Pl
theorem comes_gets2 {n : Nt} {c : Cch} {reb : List Int} {p : Place} {ds : Int} (U : List Place) (hU : ∀ x, Gets (run n c reb) n.tracks.length p x → x ∈ U) (hl : U.length ≤ 24) :
    comes n c reb p ds = true ↔ ∃ x, Gets (run n c reb) n.tracks.length p x ∧ x.1 = ds := by
  have h := bfs_all (run n c reb) n.tracks.length p U hU 100 (by omega)
  unfold comes reached
  rw [List.any_eq_true]
  constructor
  · rintro ⟨x, hx, he⟩
    exact ⟨x, (h.2 x).1 hx, by simpa using he⟩
  · rintro ⟨x, hx, he⟩
    exact ⟨x, (h.2 x).2 hx, by simpa using he⟩

end Go.Proofs.Ytpbjpochjagicaa.Pl
namespace Go.Proofs.Ytpbjpochjagicaa
open Go.RowKit
theorem comes_range2 {n : Pl.Nt} {c : Pl.Cch} {fr g : Int} (h : Pl.question n c fr g = 0) {x : Int} (hx : Pl.comes n c [] (fr, g) x = true) : 0 ≤ x ∧ x ≤ n.stops - 1 := by
  obtain ⟨hb, hf0, hg⟩ := question_b h
  obtain ⟨hc, hft⟩ := both_check hb
  have hr := out_false hf0
  have hgr := (fits_lists hft).1 g hg
  have hU := gets_in (c := c) (reb := []) (p := (fr, g)) hc hr.1 hr.2 (by show 0 ≤ g; omega) (by show g ≤ 3; omega)
  obtain ⟨y, hy, he⟩ := (Pl.comes_gets2 places hU places_length).1 hx
  obtain ⟨l, hl, hle⟩ := Pl.gets_run hy
  have : ∀ (l : List Nat) (p : Pl.Place), 0 ≤ p.1 → p.1 ≤ n.stops - 1 → Pl.RunOk n.tracks.length (Pl.run n c []) p l → 0 ≤ (Pl.endOf (Pl.run n c []) p l).1 ∧ (Pl.endOf (Pl.run n c []) p l).1 ≤ n.stops - 1 := by
    intro l
    induction l with
    | nil => intro p h0 h1 _; exact ⟨h0, h1⟩
    | cons i l ih =>
      intro p h0 h1 hr
      obtain ⟨hi, hz, hr⟩ := hr
      have ht := trk_in hc hi
      obtain ⟨_, _, _, f4, _⟩ := Pl.run_fine hz
      refine ih _ ?_ ?_ hr
      · rw [f4]
        have := ht.a0; have := ht.b0
        dsimp only
        split <;> omega
      · rw [f4]
        have := ht.a1; have := ht.b1
        dsimp only
        split <;> omega
  have h2 := this l (fr, g) hr.1 hr.2 hl
  rw [hle, he] at h2
  exact h2

theorem tracksErr_on {s : Int} {t : Pl.Trk} (h2 : Pl.trackErr s t = 0) : ∀ {l : List Pl.Trk}, Pl.tracksErr s l = 0 → Pl.tracksErr s (l ++ [t]) = 0
  | [], _ => by simp [Pl.tracksErr, h2]
  | x :: l, h => by
    rw [Pl.tracksErr] at h
    rw [List.cons_append, Pl.tracksErr]
    split at h
    · next hx => rw [if_pos hx]; exact tracksErr_on h2 h
    · next hx => exact absurd h hx
theorem check_tracksErr {n : Pl.Nt} (h : Pl.check n = 0) : Pl.tracksErr n.stops n.tracks = 0 := by
  unfold Pl.check at h
  split at h
  · cases h
  · split at h
    · cases h
    · split at h
      · next h3 => exact h3
      · next h3 => exact absurd h h3
theorem check_shops {n : Pl.Nt} (h : Pl.check n = 0) : Pl.rising n.shops 0 (n.stops - 1) 3 = 0 := by
  unfold Pl.check at h
  split at h
  · cases h
  · split at h
    · cases h
    · split at h
      · exact h
      · next h3 => exact absurd h h3
/-- Lines that hold those of a net, one more perhaps. -/
structure XOk (n : Pl.Nt) (ts : List Pl.Trk) : Prop where
  len : ts.length ≤ 7
  err : Pl.tracksErr n.stops ts = 0
  more : n.tracks.length ≤ ts.length
  pre : ∀ i, i < n.tracks.length → ts.getD i default = n.tracks.getD i default
theorem XOk.same {n : Pl.Nt} (h : Pl.check n = 0) (hl : n.tracks.length ≤ 6) : XOk n n.tracks := ⟨by omega, check_tracksErr h, Nat.le_refl _, fun _ _ => rfl⟩
theorem XOk.add {n : Pl.Nt} {t : Pl.Trk} (h : Pl.check n = 0) (hl : n.tracks.length ≤ 6) (ht : Pl.trackErr n.stops t = 0) : XOk n (n.tracks ++ [t]) :=
  ⟨by simp; omega, tracksErr_on ht (check_tracksErr h), by simp, fun i hi => by
    simp only [List.getD_eq_getElem?_getD]
    rw [List.getElem?_append_left hi]⟩
theorem trackErr_new {s b km gauge room load : Int} (hb0 : 1 ≤ b) (hb1 : b ≤ s - 1) (k0 : 1 ≤ km) (k1 : km ≤ 9) (g0 : 1 ≤ gauge) (g1 : gauge ≤ 3) (r0 : 3 ≤ room) (r1 : room ≤ 6) (l0 : 6 ≤ load) (l1 : load ≤ 14) :
    Pl.trackErr s ⟨0, b, km, gauge, room, 0, 0, load, false⟩ = 0 := by
  have o1 : Pl.out 0 0 (s - 1) = false := by simp [Pl.out]; omega
  have o2 : Pl.out b 0 (s - 1) = false := by simp [Pl.out]; omega
  have o3 : Pl.out km 1 99 = false := by simp [Pl.out]; omega
  have o4 : Pl.out gauge 1 3 = false := by simp [Pl.out]; omega
  have o5 : Pl.out room 1 9 = false := by simp [Pl.out]; omega
  have o6 : Pl.out 0 0 3 = false := by decide
  have o7 : Pl.out load 1 20 = false := by simp [Pl.out]; omega
  have e : ¬ (0 : Int) = b := by omega
  simp [Pl.trackErr, o1, o2, o3, o4, o5, o6, o7, e]
/-- The net with these lines and shops has no error, and is wider. -/
theorem wider_of {n : Pl.Nt} {ts : List Pl.Trk} {zs : List Int} (h : Pl.check n = 0) (hx : XOk n ts) (hz : Upw 0 n.stops zs) (hs : ∀ s ∈ n.shops, s ∈ zs) :
    Pl.check ⟨n.stops, ts, zs⟩ = 0 ∧ Pl.Wider n ⟨n.stops, ts, zs⟩ := by
  have hst := check_stops h
  have ho : Pl.out n.stops 1 6 = false := by
    unfold Pl.check at h
    split at h
    · cases h
    · next h1 => simpa using h1
  refine ⟨?_, hx.more, hx.pre, hs⟩
  rw [check_of_shops ho (by have := hx.len; omega) hx.err]
  have hz2 : Upw 0 (n.stops - 1 + 1) zs := by rw [show n.stops - 1 + 1 = n.stops by omega]; exact hz
  exact hz2.rising 3
theorem question_wider {n x : Pl.Nt} {c d : Pl.Cch} {fr ga : Int} (hx : Pl.check x = 0) (hst : x.stops = n.stops) (hf : Pl.Finer c d) (hd : Pl.fits d = 0) (hq : Pl.question n c fr ga = 0) : Pl.question x d fr ga = 0 := by
  obtain ⟨_, ho, hg⟩ := question_b hq
  have hb2 : Pl.both x d = 0 := by simp [Pl.both, hx, hd]
  have hg2 := hf.gauges ga hg
  have ho2 : Pl.out fr 0 (x.stops - 1) = false := by rw [hst]; exact ho
  simp [Pl.question, hb2, ho2, hg2]
/-- Where a car comes, a better one comes in a wider net, over no more kilometres. -/
theorem better_at {n x : Pl.Nt} {c d : Pl.Cch} {fr ga s : Int} (hn : Pl.check n = 0) (hx : Pl.check x = 0) (hst : x.stops = n.stops) (hw : Pl.Wider n x) (hf : Pl.Finer c d) (hd : Pl.fits d = 0) (hq : Pl.question n c fr ga = 0) (hs : Pl.comes n c [] (fr, ga) s = true) :
    Pl.asked n c fr ga s = 0 ∧ Pl.asked x d fr ga s = 0 ∧ Pl.comes x d [] (fr, ga) s = true ∧ ∃ t u, Pl.way n c fr ga s = some t ∧ Pl.way x d fr ga s = some u ∧ u.km ≤ t.km := by
  obtain ⟨hb, ho, hg⟩ := question_b hq
  have hc := both_check hb
  have ho' := out_false ho
  have hgr := (fits_lists hc.2).1 ga hg
  have hr := comes_range2 hq hs
  have hgn := gets_in (n := n) (c := c) (reb := []) (p := (fr, ga)) hn ho'.1 ho'.2 (by show 0 ≤ ga; omega) (by show ga ≤ 3; omega)
  have hgx := gets_in (n := x) (c := d) (reb := []) (p := (fr, ga)) hx ho'.1 (by rw [hst]; exact ho'.2) (by show 0 ≤ ga; omega) (by show ga ≤ 3; omega)
  have hout : Pl.out s 0 (n.stops - 1) = false := by simp [Pl.out]; omega
  have hq2 : Pl.question x d fr ga = 0 := by
    have hb2 : Pl.both x d = 0 := by simp [Pl.both, hx, hd]
    have hg2 := hf.gauges ga hg
    have ho2 : Pl.out fr 0 (x.stops - 1) = false := by rw [hst]; exact ho
    simp [Pl.question, hb2, ho2, hg2]
  obtain ⟨y, hy1, hy2⟩ := (Pl.comes_gets2 places hgn places_length).1 hs
  obtain ⟨t, ht⟩ := (Pl.way_comes places hgn places_length (km_pos hn)).2 ⟨y, hy1, hy2⟩
  obtain ⟨u, hu, hle⟩ := hw.way hf places hgx places_length (km_pos hx) ht
  refine ⟨by simp [Pl.asked, hq, hout], by simp [Pl.asked, hq2, hst, hout], (Pl.comes_gets2 places hgx places_length).2 ⟨y, hw.gets hf hy1, hy2⟩, t, u, ht, hu, hle⟩
/-- A car that is given what it lacks, and is made smaller and lighter. -/
theorem better_car {c : Pl.Cch} {l : List Int} {s1 l1 : Int} (hf : Pl.fits c = 0) (hl : l.Sublist (Pl.missing c)) (h1 : 1 ≤ s1) (h2 : s1 ≤ c.size) (h3 : 1 ≤ l1) (h4 : l1 ≤ c.load) :
    Pl.fits { Pl.given c l with size := s1, load := l1 } = 0 ∧ Pl.Finer c { Pl.given c l with size := s1, load := l1 } := by
  have hg := given_missing hf hl
  have f := fitL_of hg.2
  have fc := fitL_of hf
  have hfin := Pl.finer_given l c
  exact ⟨FitL.fits { f with s1 := h1, s2 := by have := fc.s2; show s1 ≤ 9; omega, l1 := h3, l2 := by have := fc.l2; show l1 ≤ 20; omega }, { hfin with size := h2, load := h4 }⟩
/-- The bag's block is no row's. -/
theorem kb_ints {g : Nat} {w w' : World} {B : Nat} {A : Option Addr} {xs : List Int} (h : Kb g w w') (hb : BagAt w g) (hx : Ints w B A xs) (hB : B ≤ w.heap.size) : Ints w' B A xs := fun k x hk => by
  obtain ⟨b, off, hA, hlt, hc⟩ := hx k x hk
  refine ⟨b, off, hA, hlt, (h.cell (p := ⟨b, off + k, none⟩) (Nat.lt_of_lt_of_le hlt hB) (fun e => ?_)).trans hc⟩
  obtain ⟨s, hs⟩ := hb
  have e : b = g := e
  subst e
  have : w.cell? ⟨b, off + k, none⟩ = (#[Value.int .u64 s][off + k]?) := by simp [World.cell?, hs]
  rw [this] at hc
  rcases Nat.eq_zero_or_pos (off + k) with h0 | h0
  · rw [h0] at hc; simp at hc
  · rw [Array.getElem?_eq_none (by simp; omega)] at hc; cases hc
theorem kb_creads {g : Nat} {w w' : World} {B : Nat} (c : Pl.Cch) (c_gA c_bA c_hA : Option Addr) (c_gc c_bc c_hc : Nat) (h : Kb g w w') (hb : BagAt w g) (hr : CReads w B c c_gA c_bA c_hA c_gc c_bc c_hc) (hB : B ≤ w.heap.size) : CReads w' B c c_gA c_bA c_hA c_gc c_bc c_hc :=
  ⟨kb_ints h hb hr.gauges hB, kb_ints h hb hr.brakes hB, kb_ints h hb hr.heats hB, hr.lenG, hr.lenB, hr.lenH⟩
end Go.Proofs.Ytpbjpochjagicaa
