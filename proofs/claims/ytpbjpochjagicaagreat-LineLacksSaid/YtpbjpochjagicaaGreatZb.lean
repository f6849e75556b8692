/- Walks: Lacks of the reference. -/
import Derived.Test.YtpbjpochjagicaaGreatZ5
import Derived.Test.YtpbjpochjagicaaGreatW69
import Derived.Test.YtpbjpochjagicaaGreatW70
import Derived.Test.YtpbjpochjagicaaGreatW23
import Derived.Test.YtpbjpochjagicaaGreatFl
import Derived.Deep.DeepCutAuto
namespace Go.Proofs.YtpbjpochjagicaaGreat.Pl
theorem barred_nil (c : Cch) (t : Trk) : barred c t = [] ↔ t.gauge ∈ c.gauges ∧ c.size ≤ t.room ∧ c.load ≤ t.load ∧ (t.brake = 0 ∨ t.brake ∈ c.brakes) ∧ (t.heat = 0 ∨ t.heat ∈ c.heats) ∧ (t.ferry = false ∨ c.hooks = true) := by
  unfold barred
  simp only [List.append_eq_nil_iff]
  constructor
  · rintro ⟨⟨⟨⟨⟨h1, h2⟩, h3⟩, h4⟩, h5⟩, h6⟩
    refine ⟨?_, ?_, ?_, ?_, ?_, ?_⟩
    · by_cases h : t.gauge ∈ c.gauges
      · exact h
      · rw [if_neg h] at h1; cases h1
    · by_cases h : t.room < c.size
      · rw [if_pos h] at h2; cases h2
      · omega
    · by_cases h : t.load < c.load
      · rw [if_pos h] at h3; cases h3
      · omega
    · by_cases h : t.brake = 0
      · exact .inl h
      · by_cases hb : t.brake ∈ c.brakes
        · exact .inr hb
        · rw [if_pos ⟨h, hb⟩] at h4; cases h4
    · by_cases h : t.heat = 0
      · exact .inl h
      · by_cases hb : t.heat ∈ c.heats
        · exact .inr hb
        · rw [if_pos ⟨h, hb⟩] at h5; cases h5
    · cases hf : t.ferry
      · exact .inl rfl
      · cases hh : c.hooks
        · rw [if_pos ⟨hf, hh⟩] at h6; cases h6
        · exact .inr rfl
  · rintro ⟨h1, h2, h3, h4, h5, h6⟩
    rw [if_pos h1, if_neg (by omega), if_neg (by omega), if_neg (fun e => h4.elim e.1 e.2), if_neg (fun e => h5.elim e.1 e.2), if_neg (fun e => h6.elim (fun h => by rw [e.1] at h; cases h) (fun h => by rw [e.2] at h; cases h))]
    exact ⟨⟨⟨⟨⟨rfl, rfl⟩, rfl⟩, rfl⟩, rfl⟩, rfl⟩

structure Finer (c d : Cch) : Prop where
  gauges : ∀ x ∈ c.gauges, x ∈ d.gauges
  size : d.size ≤ c.size
  load : d.load ≤ c.load
  brakes : ∀ x ∈ c.brakes, x ∈ d.brakes
  heats : ∀ x ∈ c.heats, x ∈ d.heats
  hooks : c.hooks = true → d.hooks = true
theorem Finer.barred {c d : Cch} (h : Finer c d) {t : Trk} (hb : Pl.barred c t = []) : Pl.barred d t = [] := by
  rw [barred_nil] at hb ⊢
  obtain ⟨h1, h2, h3, h4, h5, h6⟩ := hb
  have := h.size; have := h.load
  exact ⟨h.gauges _ h1, by omega, by omega, h4.imp id (h.brakes _), h5.imp id (h.heats _), h6.imp id h.hooks⟩
theorem Finer.refl (c : Cch) : Finer c c := ⟨fun _ h => h, Int.le_refl _, Int.le_refl _, fun _ h => h, fun _ h => h, id⟩
theorem Finer.trans {c d e : Cch} (h : Finer c d) (k : Finer d e) : Finer c e :=
  ⟨fun x hx => k.gauges x (h.gauges x hx), Int.le_trans k.size h.size, Int.le_trans k.load h.load, fun x hx => k.brakes x (h.brakes x hx), fun x hx => k.heats x (h.heats x hx), fun hh => k.hooks (h.hooks hh)⟩
theorem mem_insert' {n y : Int} : ∀ {l : List Int}, y ∈ l → y ∈ insert n l
  | x :: l, h => by
    rw [insert]
    split
    · exact List.mem_cons_of_mem _ h
    · rcases List.mem_cons.1 h with rfl | h
      · simp
      · exact List.mem_cons_of_mem _ (mem_insert' h)
theorem finer_give (c : Cch) (t : Int) : Finer c (give c t) := by
  unfold give
  split
  · exact { Finer.refl c with hooks := fun _ => rfl }
  · split
    · exact { Finer.refl c with heats := fun x hx => mem_insert' hx }
    · split
      · exact { Finer.refl c with brakes := fun x hx => mem_insert' hx }
      · exact { Finer.refl c with gauges := fun x hx => mem_insert' hx }
theorem finer_given : ∀ (l : List Int) (c : Cch), Finer c (given c l)
  | [], c => Finer.refl c
  | t :: l, c => (finer_give c t).trans (finer_given l (give c t))

theorem given_size : ∀ (l : List Int) (c : Cch), (given c l).size = c.size ∧ (given c l).load = c.load
  | [], c => ⟨rfl, rfl⟩
  | t :: l, c => by
    have h := given_size l (give c t)
    have e : (give c t).size = c.size ∧ (give c t).load = c.load := by unfold give; split <;> (try split) <;> (try split) <;> exact ⟨rfl, rfl⟩
    exact ⟨h.1.trans e.1, h.2.trans e.2⟩
theorem insert_self (n : Int) : ∀ l : List Int, n ∈ insert n l
  | [] => by simp [insert]
  | x :: l => by
    rw [insert]
    split
    · simp
    · exact List.mem_cons_of_mem _ (insert_self n l)
theorem lists_over : ∀ (l : List Int) (m : Nat), l.length < m → lists l m = []
  | [], m + 1, _ => rfl
  | x :: l, m + 1, h => by
    rw [lists, lists_over l m (by simpa using h), lists_over l (m + 1) (by simp at h; omega)]
    rfl
theorem lists_full : ∀ l : List Int, lists l l.length = [l]
  | [] => rfl
  | x :: l => by
    rw [List.length_cons, lists, lists_full l, lists_over l (l.length + 1) (by omega)]
    rfl
theorem fewestFrom_none {all : List Int} {f : List Int → Bool} (h : ∀ m l, l ∈ lists all m → f l = false) : ∀ k m, fewestFrom all f k m = none
  | 0, _ => rfl
  | k + 1, m => by
    have e : (lists all m).find? f = none := List.find?_eq_none.2 (fun l hl => by simp [h m l hl])
    rw [fewestFrom, e]
    exact fewestFrom_none h k (m + 1)
end Go.Proofs.YtpbjpochjagicaaGreat.Pl
namespace Go.Proofs.YtpbjpochjagicaaGreat
open Go.RowKit

theorem hasT_finer {c d : Pl.Cch} (h : Pl.Finer c d) {t : Int} (ht : HasT c t) : HasT d t := by
  unfold HasT at ht ⊢
  by_cases h1 : t = 30
  · rw [if_pos h1] at ht ⊢
    exact h.hooks ht
  · rw [if_neg h1] at ht ⊢
    by_cases h2 : 20 < t
    · rw [if_pos h2] at ht ⊢
      exact h.heats _ ht
    · rw [if_neg h2] at ht ⊢
      by_cases h3 : 10 < t
      · rw [if_pos h3] at ht ⊢
        exact h.brakes _ ht
      · rw [if_neg h3] at ht ⊢
        exact h.gauges _ ht
theorem hasT_give (c : Pl.Cch) (t : Int) : HasT (Pl.give c t) t := by
  unfold HasT Pl.give
  by_cases h1 : t = 30
  · rw [if_pos h1, if_pos h1]
  · rw [if_neg h1, if_neg h1]
    by_cases h2 : 20 < t
    · rw [if_pos h2, if_pos h2]
      exact Pl.insert_self _ _
    · rw [if_neg h2, if_neg h2]
      by_cases h3 : 10 < t
      · rw [if_pos h3, if_pos h3]
        exact Pl.insert_self _ _
      · rw [if_neg h3, if_neg h3]
        exact Pl.insert_self _ _
theorem hasT_given : ∀ {l : List Int} {c : Pl.Cch} {t : Int}, t ∈ l → HasT (Pl.given c l) t
  | x :: l, c, t, h => by
    rcases List.mem_cons.1 h with rfl | h
    · exact hasT_finer (Pl.finer_given l (Pl.give c t)) (hasT_give c t)
    · exact hasT_given (l := l) (c := Pl.give c x) h
theorem thing_missing {c : Pl.Cch} {t : Int} (ht : Thing t) (hn : ¬ HasT c t) : t ∈ Pl.missing c := by
  simp only [Pl.missing, List.mem_append, List.mem_filter, List.mem_map, List.mem_cons, List.not_mem_nil, or_false, decide_eq_true_eq]
  unfold Thing at ht
  unfold HasT at hn
  rcases ht with h | h | h | rfl
  · rw [if_neg (by omega), if_neg (by omega), if_neg (by omega)] at hn
    exact .inl (.inl (.inl ⟨by omega, hn⟩))
  · rw [if_neg (by omega), if_neg (by omega), if_pos (by omega)] at hn
    exact .inl (.inl (.inr ⟨t - 10, ⟨by omega, hn⟩, by omega⟩))
  · rw [if_neg (by omega), if_pos (by omega)] at hn
    exact .inl (.inr ⟨t - 20, ⟨by omega, hn⟩, by omega⟩)
  · rw [if_pos rfl] at hn
    rw [if_neg hn]
    exact .inr (by simp)
theorem has_full {c : Pl.Cch} {t : Int} (ht : Thing t) : HasT (Pl.given c (Pl.missing c)) t := by
  by_cases h : HasT c t
  · exact hasT_finer (Pl.finer_given _ c) h
  · exact hasT_given (thing_missing ht h)
theorem finer_full {c : Pl.Cch} {l : List Int} (hf : Pl.fits c = 0) (hl : l.Sublist (Pl.missing c)) : Pl.Finer (Pl.given c l) (Pl.given c (Pl.missing c)) := by
  have hfit := fitL_of (given_missing hf hl).2
  have h1 := Pl.given_size l c
  have h2 := Pl.given_size (Pl.missing c) c
  refine ⟨fun x hx => ?_, by omega, by omega, fun x hx => ?_, fun x hx => ?_, fun _ => ?_⟩
  · have hx2 := hfit.gi x hx
    have := has_full (c := c) (t := x) (.inl ⟨hx2.1, hx2.2⟩)
    unfold HasT at this
    rw [if_neg (by omega), if_neg (by omega), if_neg (by omega)] at this
    exact this
  · have hx2 := hfit.bi x hx
    have := has_full (c := c) (t := 10 + x) (.inr (.inl ⟨by omega, by omega⟩))
    unfold HasT at this
    rw [if_neg (by omega), if_neg (by omega), if_pos (by omega), show 10 + x - 10 = x by omega] at this
    exact this
  · have hx2 := hfit.hi x hx
    have := has_full (c := c) (t := 20 + x) (.inr (.inr (.inl ⟨by omega, by omega⟩)))
    unfold HasT at this
    rw [if_neg (by omega), if_pos (by omega), show 20 + x - 20 = x by omega] at this
    exact this
  · have := has_full (c := c) (t := 30) (.inr (.inr (.inr rfl)))
    unfold HasT at this
    rw [if_pos rfl] at this
    exact this
/-- If a car that has been given all does not come, none does. -/
theorem lacks_none {n : Pl.Nt} {c : Pl.Cch} {fr g ds : Int} (hA : Pl.asked n c fr g ds = 0) (h : Pl.comes n (Pl.given c (Pl.missing c)) [] (fr, g) ds = false) : Pl.lacks n c fr g ds = none := by
  have hf := (asked_good hA).2.1
  refine Pl.fewestFrom_none (fun m l hl => ?_) _ _
  cases hc : Pl.comes n (Pl.given c l) [] (fr, g) ds
  · rfl
  · rw [Pl.comes_gets places (asked_in hA) places_length] at hc
    obtain ⟨z, hz, he⟩ := hc
    have : Pl.comes n (Pl.given c (Pl.missing c)) [] (fr, g) ds = true := (Pl.comes_gets places (asked_in hA) places_length).2 ⟨z, Pl.gets_less (fun t => (finer_full hf (lists_sub hl).1).barred) hz, he⟩
    rw [h] at this
    cases this
theorem own_caps {w : World} {b : Nat} {A : Option Addr} {c : Nat} {xs : List Int} (h : OwnInts w b A c xs) : xs.length ≤ c ∧ c ≤ 9223372036854775807 := by
  rcases h.2 with ⟨h1, h2⟩ | ⟨g, cap, cur, hv, _, _, h3, h4, _⟩
  · injection h1 with h1 h3 h4
    omega
  · injection hv with _ _ hc
    subst hc
    exact ⟨h3, by simp only [maxLen] at h4; omega⟩

set_option maxRecDepth 20000 in
set_option maxHeartbeats 20000000 in
theorem rlacks_any (n : Pl.Nt) (n_tA n_sA : Option Addr) (n_tc n_sc : Nat) (c : Pl.Cch) (c_gA c_bA c_hA : Option Addr) (c_gc c_bc c_hc : Nat) (fr g ds : Int) (w : World) (hn : NReads w w.heap.size n n_tA n_sA n_tc n_sc) (hr : CReads w w.heap.size c c_gA c_bA c_hA c_gc c_bc c_hc) :
    Calls Tryz.prog 14 #[.agg #[.int .i64 n.stops, .slice n_tA n.tracks.length n_tc, .slice n_sA n.shops.length n_sc], .agg #[.slice c_gA c.gauges.length c_gc, .int .i64 c.size, .int .i64 c.load, .slice c_bA c.brakes.length c_bc, .slice c_hA c.heats.length c_hc, .bool c.hooks], .int .i64 fr, .int .i64 g, .int .i64 ds] w (ListPost (Pl.asked n c fr g ds) (Pl.lacks n c fr g ds) w) := by
  obtain ⟨w2, hw2⟩ : ∃ w2, w2 = (w.alloc (.cells #[.int .i64 n.stops, .slice n_tA n.tracks.length n_tc, .slice n_sA n.shops.length n_sc] 25)).alloc (.cells #[.slice c_gA c.gauges.length c_gc, .int .i64 c.size, .int .i64 c.load, .slice c_bA c.brakes.length c_bc, .slice c_hA c.heats.length c_hc, .bool c.hooks] 27) := ⟨_, rfl⟩
  have hb2 : Below w.heap.size w w2 := by rw [hw2]; exact ((Below.refl _ _).alloc (Nat.le_refl _) _).alloc (by simp) _
  have hbn : w2.heap[w.heap.size]? = some (.cells #[.int .i64 n.stops, .slice n_tA n.tracks.length n_tc, .slice n_sA n.shops.length n_sc] 25 (0, 0)) := by rw [hw2]; exact blk_alloc (heap_alloc_new _ _) _
  have hbc : w2.heap[w.heap.size + 1]? = some (.cells #[.slice c_gA c.gauges.length c_gc, .int .i64 c.size, .int .i64 c.load, .slice c_bA c.brakes.length c_bc, .slice c_hA c.heats.length c_hc, .bool c.hooks] 27 (0, 0)) := by rw [hw2]; simpa using heap_alloc_new (w.alloc (.cells #[.int .i64 n.stops, .slice n_tA n.tracks.length n_tc, .slice n_sA n.shops.length n_sc] 25)) (.cells #[.slice c_gA c.gauges.length c_gc, .int .i64 c.size, .int .i64 c.load, .slice c_bA c.brakes.length c_bc, .slice c_hA c.heats.length c_hc, .bool c.hooks] 27)
  have HN := Lib.hid hn
  have HR := Lib.hid hr
  have HW2 := Lib.hid hw2
  have HB2 := Lib.hid hb2
  have HS2 : Hid (w.heap.size + 1 < w2.heap.size) := lt_of_block hbc
  have HAS := Lib.hid (rasked_any n n_tA n_sA n_tc n_sc c c_gA c_bA c_hA c_gc c_bc c_hc fr g ds w2 ((hn.below hb2).more hb2.size) ((hr.below hb2).more hb2.size))
  have HKP := Lib.hid (boxes_keep n n_tA n_sA n_tc n_sc c c_gA c_bA c_hA c_gc c_bc c_hc hbn hbc)
  obtain ⟨⟨x0, x1, x2⟩, y0, y1, y2, y3, y4, y5⟩ := HKP.out _ (Below.refl _ _)
  clear hn hr hb2 hbn hbc hw2
  by_cases hA : Pl.asked n c fr g ds = 0
  · obtain ⟨hp0, d0, d5⟩ := spot_of hA
    have hck := (asked_good hA).1
    have hft := (asked_good hA).2.1
    obtain ⟨f, hf⟩ : ∃ f : List Int → Bool, (fun l => Pl.comes n (Pl.given c l) [] (fr, g) ds) = f := ⟨_, rfl⟩
    have hfe : ∀ l, Pl.comes n (Pl.given c l) [] (fr, g) ds = f l := fun l => by rw [← hf]
    have HC : Hid (∀ (W : World) (d : Pl.Cch) (d_gA d_bA d_hA : Option Addr) (d_gc d_bc d_hc : Nat), Below w.heap.size w W → CReads W W.heap.size d d_gA d_bA d_hA d_gc d_bc d_hc → Calls Tryz.prog 45 #[.agg #[.int .i64 n.stops, .slice n_tA n.tracks.length n_tc, .slice n_sA n.shops.length n_sc], .agg #[.slice d_gA d.gauges.length d_gc, .int .i64 d.size, .int .i64 d.load, .slice d_bA d.brakes.length d_bc, .slice d_hA d.heats.length d_hc, .bool d.hooks], .slice none ([] : List Int).length 0, .int .i64 (-1), .agg #[.int .i64 fr, .int .i64 g], .int .i64 ds] W fun e w' => e = .returned (.bool (Pl.comes n d [] (fr, g) ds)) ∧ Below W.heap.size W w') := fun W d d_gA d_bA d_hA d_gc d_bc d_hc hW hd => by
      have h := rcomes_any n n_tA n_sA n_tc n_sc d d_gA d_bA d_hA d_gc d_bc d_hc none [] 0 (-1) fr g ds W ((HN.out.below hW).more hW.size) hd (Ints.nil _ _ _) (by simp) hck hp0 d0 d5
      rw [Pl.comesB_all] at h
      exact h
    have HGV : Hid (∀ (W : World) (A : Option Addr) (l : List Int) (cp : Nat), Below w.heap.size w W → Ints W W.heap.size A l → l.Sublist (Pl.missing c) → Calls Tryz.prog 46 #[.agg #[.slice c_gA c.gauges.length c_gc, .int .i64 c.size, .int .i64 c.load, .slice c_bA c.brakes.length c_bc, .slice c_hA c.heats.length c_hc, .bool c.hooks], .slice A l.length cp] W (GivPost (Pl.given c l) W)) := fun W A l cp hW hI hl => by
      have hml := missing_length c
      have hll := hl.length_le
      have h := givenP_any c c_gA c_bA c_hA c_gc c_bc c_hc A cp l W ((HR.out.below hW).more hW.size) hI (by omega) (by have h := (fits_lists hft).2; exact ⟨by have := h.lG; omega, by have := h.lB; omega, by have := h.lH; omega⟩) (fun x hx => by
        have h1 := (missing_thing (hl.subset hx)).1
        unfold Thing at h1
        omega)
      rw [(given_missing hft hl).1] at h
      exact h
    have HTH : Hid (∀ W, Below w.heap.size w W → Calls Tryz.prog 44 #[.agg #[.slice c_gA c.gauges.length c_gc, .int .i64 c.size, .int .i64 c.load, .slice c_bA c.brakes.length c_bc, .slice c_hA c.heats.length c_hc, .bool c.hooks]] W (PutPost (Pl.missing c) W)) := fun W hW => things_any c c_gA c_bA c_hA c_gc c_bc c_hc W ((HR.out.below hW).more hW.size)
    have HML : Hid ((Pl.missing c).length ≤ 10) := missing_length c
    have HLA : Hid (Pl.lacks n c fr g ds = Pl.fewestFrom (Pl.missing c) f ((Pl.missing c).length + 1) 0) := by
      show _ = _
      rw [← hf]
      rfl
    have HNO : Hid (f (Pl.missing c) = false → Pl.lacks n c fr g ds = none) := fun h => lacks_none hA (by rw [hfe]; exact h)
    have HFE := Lib.hid hfe
    rw [hA] at HAS ⊢
    clear hck hft hp0 hA hf hfe d0 d5
    generalize Pl.lacks n c fr g ds = RB at HLA HNO ⊢
    go_enter Tryz.func14, Tryz.ntmps14
    go_upto_region 1 with fail
    rw [← HW2.out]
    go_upto_region 4 with (go_at_call 43; refine HAS.out.mono ?_; rintro e w5 ⟨rfl, hb5⟩; have HB5 := Lib.hid hb5; clear hb5 x0 x1 x2 y0 y1 y2 y3 y4 y5)
    obtain ⟨⟨x0, x1, x2⟩, y0, y1, y2, y3, y4, y5⟩ := HKP.out _ HB5.out
    have HBW := Lib.hid (HB2.out.trans (HB5.out.mono HB2.out.size))
    go_upto_region 5 with (go_at_call 44; refine (HTH.out _ HBW.out).mono ?_; rintro e w6 ⟨A6, c6, rfl, ho6, hb6⟩; have HO6 := Lib.hid ho6; have HB6 := Lib.hid (HB5.out.trans (hb6.mono HB5.out.size)); clear ho6 hb6 x0 x1 x2 y0 y1 y2 y3 y4 y5)
    have HW9 := Lib.hid (HB2.out.trans (HB6.out.mono HB2.out.size))
    have HI9 := Lib.hid HO6.out.ints
    have HSS : Hid (∀ W, Below w6.heap.size w6 W → (((W.cell? ⟨w.heap.size, 0, none⟩ = some (.int .i64 n.stops) ∧ W.cell? ⟨w.heap.size, 1, none⟩ = some (.slice n_tA n.tracks.length n_tc) ∧ W.cell? ⟨w.heap.size, 2, none⟩ = some (.slice n_sA n.shops.length n_sc)) ∧ (W.cell? ⟨w.heap.size + 1, 0, none⟩ = some (.slice c_gA c.gauges.length c_gc) ∧ W.cell? ⟨w.heap.size + 1, 1, none⟩ = some (.int .i64 c.size) ∧ W.cell? ⟨w.heap.size + 1, 2, none⟩ = some (.int .i64 c.load) ∧ W.cell? ⟨w.heap.size + 1, 3, none⟩ = some (.slice c_bA c.brakes.length c_bc) ∧ W.cell? ⟨w.heap.size + 1, 4, none⟩ = some (.slice c_hA c.heats.length c_hc) ∧ W.cell? ⟨w.heap.size + 1, 5, none⟩ = some (.bool c.hooks))))) := fun W hW => HKP.out W (HB6.out.trans (hW.mono HB6.out.size))
    have hfl0 := HFE.out (Pl.missing c)
    cases hfl : f (Pl.missing c)
    · have HE := Lib.hid (HNO.out hfl)
      have HFL := Lib.hid (hfl0.trans hfl)
      clear hfl hfl0
      go_upto_region 5 with fail
      go_cut [37] (fun v wx => v = .bool true ∧ Hid (Below w6.heap.size w6 wx))
      case first =>
        have hS := HSS.out _ (Below.refl _ _).drew
        refine wp_region_L (by kernel_rfl) (fun W => (((W.cell? ⟨w.heap.size, 0, none⟩ = some (.int .i64 n.stops) ∧ W.cell? ⟨w.heap.size, 1, none⟩ = some (.slice n_tA n.tracks.length n_tc) ∧ W.cell? ⟨w.heap.size, 2, none⟩ = some (.slice n_sA n.shops.length n_sc)) ∧ (W.cell? ⟨w.heap.size + 1, 0, none⟩ = some (.slice c_gA c.gauges.length c_gc) ∧ W.cell? ⟨w.heap.size + 1, 1, none⟩ = some (.int .i64 c.size) ∧ W.cell? ⟨w.heap.size + 1, 2, none⟩ = some (.int .i64 c.load) ∧ W.cell? ⟨w.heap.size + 1, 3, none⟩ = some (.slice c_bA c.brakes.length c_bc) ∧ W.cell? ⟨w.heap.size + 1, 4, none⟩ = some (.slice c_hA c.heats.length c_hc) ∧ W.cell? ⟨w.heap.size + 1, 5, none⟩ = some (.bool c.hooks))))) [] ?_
        refine wpAnyL_take (i := 0) (v := ?vb_0) rfl (by kernel_rfl) (by kernel_rfl) (by kernel_rfl) (by kernel_rfl) (by rfl) (fun _ _ _ h => h) hS (Or.inl ⟨by rfl, ?hyb_0⟩) ?hrb_0
        case hyb_0 => (intro w hSw; (try dsimp only at hSw); go_simp; (try rfl))
        simp only [List.getElem_toArray, List.getElem_cons_zero, Act.put, List.setIfInBounds_toArray, List.set_cons_zero, List.set_cons_succ]
        refine wpAnyL_take (i := 1) (v := ?vb_1) rfl (by kernel_rfl) (by kernel_rfl) (by kernel_rfl) (by kernel_rfl) (by rfl) (fun _ _ _ h => h) hS (Or.inl ⟨by rfl, ?hyb_1⟩) ?hrb_1
        case hyb_1 => (intro w hSw; (try dsimp only at hSw); go_simp; (try rfl))
        simp only [List.getElem_toArray, List.getElem_cons_succ, List.getElem_cons_zero, Act.put, List.setIfInBounds_toArray, List.set_cons_zero, List.set_cons_succ]
        refine wpAnyL_take (i := 2) (v := ?vb_2) rfl (by kernel_rfl) (by kernel_rfl) (by kernel_rfl) (by kernel_rfl) (by rfl) (fun _ _ _ h => h) hS (Or.inl ⟨by rfl, ?hyb_2⟩) ?hrb_2
        case hyb_2 => (intro w hSw; (try dsimp only at hSw); go_simp; (try rfl))
        simp only [List.getElem_toArray, List.getElem_cons_succ, List.getElem_cons_zero, Act.put, List.setIfInBounds_toArray, List.set_cons_zero, List.set_cons_succ]
        refine wpAnyL_take (i := 4) (v := ?vb_4) rfl (by kernel_rfl) (by kernel_rfl) (by kernel_rfl) (by kernel_rfl) (by rfl) (fun _ _ _ h => h) hS (Or.inl ⟨by rfl, ?hyb_4⟩) ?hrb_4
        case hyb_4 => (intro w hSw; (try dsimp only at hSw); go_simp; (try rfl))
        simp only [List.getElem_toArray, List.getElem_cons_succ, List.getElem_cons_zero, Act.put, List.setIfInBounds_toArray, List.set_cons_zero, List.set_cons_succ]
        refine wpAnyL_take (i := 5) (v := ?vb_5) rfl (by kernel_rfl) (by kernel_rfl) (by kernel_rfl) (by kernel_rfl) (by rfl) (fun _ _ _ h => h) hS (Or.inl ⟨by rfl, ?hyb_5⟩) ?hrb_5
        case hyb_5 => (intro w hSw; (try dsimp only at hSw); go_simp; (try rfl))
        simp only [List.getElem_toArray, List.getElem_cons_succ, List.getElem_cons_zero, Act.put, List.setIfInBounds_toArray, List.set_cons_zero, List.set_cons_succ]
        refine wpAnyL_take (i := 6) (v := ?vb_6) rfl (by kernel_rfl) (by kernel_rfl) (by kernel_rfl) (by kernel_rfl) (by rfl) (fun _ _ _ h => h) hS (Or.inl ⟨by rfl, ?hyb_6⟩) ?hrb_6
        case hyb_6 => (intro w hSw; (try dsimp only at hSw); go_simp; (try rfl))
        simp only [List.getElem_toArray, List.getElem_cons_succ, List.getElem_cons_zero, Act.put, List.setIfInBounds_toArray, List.set_cons_zero, List.set_cons_succ]
        refine wpAnyL_take (i := 7) (v := ?vb_7) rfl (by kernel_rfl) (by kernel_rfl) (by kernel_rfl) (by kernel_rfl) (by rfl) (fun _ _ _ h => h) hS (Or.inl ⟨by rfl, ?hyb_7⟩) ?hrb_7
        case hyb_7 => (intro w hSw; (try dsimp only at hSw); go_simp; (try rfl))
        simp only [List.getElem_toArray, List.getElem_cons_succ, List.getElem_cons_zero, Act.put, List.setIfInBounds_toArray, List.set_cons_zero, List.set_cons_succ]
        refine wpAnyL_one (i := 3) rfl (by kernel_rfl) ?_
        intro Kq hKq
        go_simp
        refine (HGV.out w6.drew A6 (Pl.missing c) c6 HW9.out.drew HI9.out.drew (List.Sublist.refl _)).mono ?_
        rintro e u0 ⟨e1, e2, e3, e4, e5, e6, rfl, hcr, hb⟩
        have HU0 : Hid (Below w6.heap.size w6 u0) := (Below.refl w6.heap.size w6).drew.trans hb
        have HCR := Lib.hid hcr
        have hS := HSS.out _ HU0.out
        refine hKq.out _ _ hS (fun _ => ?_)
        clear hKq Kq hb hcr
        try simp only [Act.put, List.setIfInBounds_toArray, List.set_cons_zero, List.set_cons_succ]
        refine wpAnyL_one (i := 8) rfl (by kernel_rfl) ?_
        intro Kq hKq
        go_simp
        refine (HC.out u0 (Pl.given c (Pl.missing c)) e1 e2 e3 e4 e5 e6 (HW9.out.trans (HU0.out.mono HW9.out.size)) HCR.out).mono ?_
        rintro e u1 ⟨rfl, hb⟩
        rw [HFL.out]
        have HU : Hid (Below w6.heap.size w6 u1) := HU0.out.trans (hb.mono HU0.out.size)
        have hS := HSS.out _ HU.out
        refine hKq.out _ _ hS (fun _ => ?_)
        clear hKq Kq hb
        try simp only [Act.put, List.setIfInBounds_toArray, List.set_cons_zero, List.set_cons_succ]
        refine wpAnyL_take (i := 9) (v := ?vb_9) rfl (by kernel_rfl) (by kernel_rfl) (by kernel_rfl) (by kernel_rfl) (by rfl) (fun _ _ _ h => h) hS (Or.inl ⟨by rfl, ?hyb_9⟩) ?hrb_9
        case hyb_9 => (intro w hSw; (try dsimp only at hSw); go_simp; (try rfl))
        simp only [List.getElem_toArray, List.getElem_cons_succ, List.getElem_cons_zero, Act.put, List.setIfInBounds_toArray, List.set_cons_zero, List.set_cons_succ]
        refine wpAnyL_done (by kernel_rfl) ?_
        try simp only [Act.put]
        go_wp2_with fail
        go_meet
        exact ⟨rfl, HU⟩
      case rest =>
      obtain ⟨rfl, HU⟩ := hcut
      obtain ⟨u1, rfl⟩ : ∃ u1, u1 = wc := ⟨_, rfl⟩
      go_wp2_with fail
      go_ret2
      rw [HE.out]
      exact listPost_none (HW9.out.trans (HU.out.mono HW9.out.size))
    · have HALL := Lib.hid hfl
      have HFL := Lib.hid (hfl0.trans hfl)
      clear hfl hfl0
      go_upto_region 5 with fail
      go_cut [37] (fun v wx => v = .bool false ∧ Hid (Below w6.heap.size w6 wx))
      case first =>
        have hS := HSS.out _ (Below.refl _ _).drew
        refine wp_region_L (by kernel_rfl) (fun W => (((W.cell? ⟨w.heap.size, 0, none⟩ = some (.int .i64 n.stops) ∧ W.cell? ⟨w.heap.size, 1, none⟩ = some (.slice n_tA n.tracks.length n_tc) ∧ W.cell? ⟨w.heap.size, 2, none⟩ = some (.slice n_sA n.shops.length n_sc)) ∧ (W.cell? ⟨w.heap.size + 1, 0, none⟩ = some (.slice c_gA c.gauges.length c_gc) ∧ W.cell? ⟨w.heap.size + 1, 1, none⟩ = some (.int .i64 c.size) ∧ W.cell? ⟨w.heap.size + 1, 2, none⟩ = some (.int .i64 c.load) ∧ W.cell? ⟨w.heap.size + 1, 3, none⟩ = some (.slice c_bA c.brakes.length c_bc) ∧ W.cell? ⟨w.heap.size + 1, 4, none⟩ = some (.slice c_hA c.heats.length c_hc) ∧ W.cell? ⟨w.heap.size + 1, 5, none⟩ = some (.bool c.hooks))))) [] ?_
        refine wpAnyL_take (i := 0) (v := ?vc_0) rfl (by kernel_rfl) (by kernel_rfl) (by kernel_rfl) (by kernel_rfl) (by rfl) (fun _ _ _ h => h) hS (Or.inl ⟨by rfl, ?hyc_0⟩) ?hrc_0
        case hyc_0 => (intro w hSw; (try dsimp only at hSw); go_simp; (try rfl))
        simp only [List.getElem_toArray, List.getElem_cons_zero, Act.put, List.setIfInBounds_toArray, List.set_cons_zero, List.set_cons_succ]
        refine wpAnyL_take (i := 1) (v := ?vc_1) rfl (by kernel_rfl) (by kernel_rfl) (by kernel_rfl) (by kernel_rfl) (by rfl) (fun _ _ _ h => h) hS (Or.inl ⟨by rfl, ?hyc_1⟩) ?hrc_1
        case hyc_1 => (intro w hSw; (try dsimp only at hSw); go_simp; (try rfl))
        simp only [List.getElem_toArray, List.getElem_cons_succ, List.getElem_cons_zero, Act.put, List.setIfInBounds_toArray, List.set_cons_zero, List.set_cons_succ]
        refine wpAnyL_take (i := 2) (v := ?vc_2) rfl (by kernel_rfl) (by kernel_rfl) (by kernel_rfl) (by kernel_rfl) (by rfl) (fun _ _ _ h => h) hS (Or.inl ⟨by rfl, ?hyc_2⟩) ?hrc_2
        case hyc_2 => (intro w hSw; (try dsimp only at hSw); go_simp; (try rfl))
        simp only [List.getElem_toArray, List.getElem_cons_succ, List.getElem_cons_zero, Act.put, List.setIfInBounds_toArray, List.set_cons_zero, List.set_cons_succ]
        refine wpAnyL_take (i := 4) (v := ?vc_4) rfl (by kernel_rfl) (by kernel_rfl) (by kernel_rfl) (by kernel_rfl) (by rfl) (fun _ _ _ h => h) hS (Or.inl ⟨by rfl, ?hyc_4⟩) ?hrc_4
        case hyc_4 => (intro w hSw; (try dsimp only at hSw); go_simp; (try rfl))
        simp only [List.getElem_toArray, List.getElem_cons_succ, List.getElem_cons_zero, Act.put, List.setIfInBounds_toArray, List.set_cons_zero, List.set_cons_succ]
        refine wpAnyL_take (i := 5) (v := ?vc_5) rfl (by kernel_rfl) (by kernel_rfl) (by kernel_rfl) (by kernel_rfl) (by rfl) (fun _ _ _ h => h) hS (Or.inl ⟨by rfl, ?hyc_5⟩) ?hrc_5
        case hyc_5 => (intro w hSw; (try dsimp only at hSw); go_simp; (try rfl))
        simp only [List.getElem_toArray, List.getElem_cons_succ, List.getElem_cons_zero, Act.put, List.setIfInBounds_toArray, List.set_cons_zero, List.set_cons_succ]
        refine wpAnyL_take (i := 6) (v := ?vc_6) rfl (by kernel_rfl) (by kernel_rfl) (by kernel_rfl) (by kernel_rfl) (by rfl) (fun _ _ _ h => h) hS (Or.inl ⟨by rfl, ?hyc_6⟩) ?hrc_6
        case hyc_6 => (intro w hSw; (try dsimp only at hSw); go_simp; (try rfl))
        simp only [List.getElem_toArray, List.getElem_cons_succ, List.getElem_cons_zero, Act.put, List.setIfInBounds_toArray, List.set_cons_zero, List.set_cons_succ]
        refine wpAnyL_take (i := 7) (v := ?vc_7) rfl (by kernel_rfl) (by kernel_rfl) (by kernel_rfl) (by kernel_rfl) (by rfl) (fun _ _ _ h => h) hS (Or.inl ⟨by rfl, ?hyc_7⟩) ?hrc_7
        case hyc_7 => (intro w hSw; (try dsimp only at hSw); go_simp; (try rfl))
        simp only [List.getElem_toArray, List.getElem_cons_succ, List.getElem_cons_zero, Act.put, List.setIfInBounds_toArray, List.set_cons_zero, List.set_cons_succ]
        refine wpAnyL_one (i := 3) rfl (by kernel_rfl) ?_
        intro Kq hKq
        go_simp
        refine (HGV.out w6.drew A6 (Pl.missing c) c6 HW9.out.drew HI9.out.drew (List.Sublist.refl _)).mono ?_
        rintro e u0 ⟨e1, e2, e3, e4, e5, e6, rfl, hcr, hb⟩
        have HU0 : Hid (Below w6.heap.size w6 u0) := (Below.refl w6.heap.size w6).drew.trans hb
        have HCR := Lib.hid hcr
        have hS := HSS.out _ HU0.out
        refine hKq.out _ _ hS (fun _ => ?_)
        clear hKq Kq hb hcr
        try simp only [Act.put, List.setIfInBounds_toArray, List.set_cons_zero, List.set_cons_succ]
        refine wpAnyL_one (i := 8) rfl (by kernel_rfl) ?_
        intro Kq hKq
        go_simp
        refine (HC.out u0 (Pl.given c (Pl.missing c)) e1 e2 e3 e4 e5 e6 (HW9.out.trans (HU0.out.mono HW9.out.size)) HCR.out).mono ?_
        rintro e u1 ⟨rfl, hb⟩
        rw [HFL.out]
        have HU : Hid (Below w6.heap.size w6 u1) := HU0.out.trans (hb.mono HU0.out.size)
        have hS := HSS.out _ HU.out
        refine hKq.out _ _ hS (fun _ => ?_)
        clear hKq Kq hb
        try simp only [Act.put, List.setIfInBounds_toArray, List.set_cons_zero, List.set_cons_succ]
        refine wpAnyL_take (i := 9) (v := ?vc_9) rfl (by kernel_rfl) (by kernel_rfl) (by kernel_rfl) (by kernel_rfl) (by rfl) (fun _ _ _ h => h) hS (Or.inl ⟨by rfl, ?hyc_9⟩) ?hrc_9
        case hyc_9 => (intro w hSw; (try dsimp only at hSw); go_simp; (try rfl))
        simp only [List.getElem_toArray, List.getElem_cons_succ, List.getElem_cons_zero, Act.put, List.setIfInBounds_toArray, List.set_cons_zero, List.set_cons_succ]
        refine wpAnyL_done (by kernel_rfl) ?_
        try simp only [Act.put]
        go_wp2_with fail
        go_meet
        exact ⟨rfl, HU⟩
      case rest =>
      obtain ⟨rfl, HU⟩ := hcut
      obtain ⟨u1, rfl⟩ : ∃ u1, u1 = wc := ⟨_, rfl⟩
      have HO8 := Lib.hid (own_below HO6.out HU.out (Nat.le_refl _))
      have HB8 := Lib.hid (HB6.out.trans (HU.out.mono HB6.out.size))
      have HCAP := Lib.hid (own_caps HO6.out)
      have HLS := Lib.hid (Pl.lists_full (Pl.missing c))
      have HSUBS : Hid (∀ m l, l ∈ Pl.lists (Pl.missing c) m → l.Sublist (Pl.missing c)) := fun m l h => (lists_sub h).1
      clear HSS HFL HO6 HI9 HU HW9
      generalize Pl.missing c = AL at *
      go_wp2_with fail
      go_loopw [14] (fun mv wr => ∃ mm : Nat, mm ≤ AL.length ∧ mv = .int .i64 mm ∧ Hid (RB = Pl.fewestFrom AL f (AL.length + 1 - mm) mm) ∧ Hid (Below u1.heap.size u1 wr)) (fun v _ => AL.length - (intOf v).toNat)
      case atStart => exact ⟨0, Nat.zero_le _, rfl, HLA, Below.refl _ _⟩
      case round =>
        obtain ⟨mm, hm, rfl, hF, hB⟩ := hrel
        clear HLA
        have hml := HML.out
        have hws := hB.out.size
        have HO9 := Lib.hid (own_below HO8.out hB.out (Nat.le_refl _))
        go_wp2_with (go_at_call 47; refine (lists_any mm AL A6 c6 _ HO9.out.ints HML.out HCAP.out.1 HCAP.out.2 (by omega)).mono ?_; rintro e w7 ⟨A7, c7, rfl, ho7, hb7⟩; have HO7 := Lib.hid ho7; have HB7 := Lib.hid (hB.out.trans (hb7.mono hws)); clear ho7 hb7)
        obtain ⟨LS, hLS⟩ : ∃ LS, Pl.lists AL mm = LS := ⟨_, rfl⟩
        have HLSL : Hid (LS.length ≤ 1024) := by
          show _ ≤ _
          rw [← hLS]
          refine Nat.le_trans (lists_length _ _) ?_
          exact Nat.le_trans (Nat.pow_le_pow_right (by omega) HML.out) (by decide)
        have HAT : Hid (∀ i (hi : i < LS.length), (LS.drop i).find? f = LS.find? f → f LS[i] = true → RB = some LS[i]) := fun i hi hd hff => by
          subst hLS
          rw [hF.out, show AL.length + 1 - mm = (AL.length - mm) + 1 by omega]
          exact fewest_at2 hi hd hff
        have HON : Hid (∀ i (hi : i < LS.length), (LS.drop i).find? f = LS.find? f → f LS[i] = false → (LS.drop (i + 1)).find? f = LS.find? f) := fun i hi hd hff => by
          subst hLS
          exact fewest_on2 hi hd hff
        have HNX : Hid ((LS.drop LS.length).find? f = LS.find? f → mm + 1 ≤ AL.length ∧ RB = Pl.fewestFrom AL f (AL.length + 1 - (mm + 1)) (mm + 1)) := fun hd => by
          subst hLS
          have hlt : mm + 1 ≤ AL.length := by
            refine Nat.succ_le_of_lt (Nat.lt_of_le_of_ne hm (fun e => ?_))
            subst e
            rw [HLS.out] at hd
            simp [HALL.out] at hd
          refine ⟨hlt, ?_⟩
          rw [hF.out, show AL.length + 1 - mm = (AL.length + 1 - (mm + 1)) + 1 by omega]
          exact fewest_next2 hd
        have HSB : Hid (∀ i (hi : i < LS.length), LS[i].Sublist AL) := fun i hi => by
          subst hLS
          exact HSUBS.out _ _ (List.getElem_mem hi)
        rw [hLS] at HO7 ⊢
        clear hLS hF
        go_loopw [16] (fun iv wq => ∃ i : Nat, i ≤ LS.length ∧ iv = .int .i64 i ∧ Hid ((LS.drop i).find? f = LS.find? f) ∧ Hid (Below w7.heap.size w7 wq)) (fun v _ => LS.length - (intOf v).toNat)
        case atStart => exact ⟨0, Nat.zero_le _, rfl, rfl, Below.refl _ _⟩
        case round =>
          obtain ⟨i, hi, rfl, hD, hB8⟩ := hrel
          obtain ⟨wq, rfl⟩ : ∃ wq, wq = wr := ⟨_, rfl⟩
          have HB9 := Lib.hid (HB8.out.trans ((HB7.out.trans (hB8.out.mono HB7.out.size)).mono HB8.out.size))
          have HBU := Lib.hid (HB7.out.trans (hB8.out.mono HB7.out.size))
          have hlsl := HLSL.out
          by_cases hil : i < LS.length
          · have hili : (i : Int) < (LS.length : Int) := by omega
            obtain ⟨rb, rA, rc, rfl, hrb0, hrb1, hrl, hrow⟩ := HO7.out.pick (List.getElem?_eq_getElem hil)
            obtain ⟨l, hl⟩ : ∃ l, LS[i] = l := ⟨_, rfl⟩
            rw [hl] at hrl hrow
            have hB9q := Lib.hid hB8.out
            have HROW : Hid (∀ W, Below wq.heap.size wq W → W.cell? ⟨rb, i, none⟩ = some (.slice rA l.length rc) ∧ Ints W W.heap.size rA l) := fun W hW => by
              have hk : KeepIn wr.heap.size w7 W := (KeepIn.refl _ _).below (hB9q.out.trans (hW.mono hB9q.out.size)) (Nat.le_refl _)
              exact ⟨(hrow W hk).1, (hrow W hk).2.more hk.size⟩
            have HAT2 : Hid (f l = true → RB = some l) := fun h => by rw [← hl]; exact HAT.out i hil hD.out (by rw [hl]; exact h)
            have HON2 : Hid (f l = false → (LS.drop (i + 1)).find? f = LS.find? f) := fun h => HON.out i hil hD.out (by rw [hl]; exact h)
            have HSUB : Hid (l.Sublist AL) := by rw [← hl]; exact HSB.out i hil
            have HSS : Hid (∀ W, Below wq.heap.size wq W → ((((W.cell? ⟨w.heap.size, 0, none⟩ = some (.int .i64 n.stops) ∧ W.cell? ⟨w.heap.size, 1, none⟩ = some (.slice n_tA n.tracks.length n_tc) ∧ W.cell? ⟨w.heap.size, 2, none⟩ = some (.slice n_sA n.shops.length n_sc)) ∧ (W.cell? ⟨w.heap.size + 1, 0, none⟩ = some (.slice c_gA c.gauges.length c_gc) ∧ W.cell? ⟨w.heap.size + 1, 1, none⟩ = some (.int .i64 c.size) ∧ W.cell? ⟨w.heap.size + 1, 2, none⟩ = some (.int .i64 c.load) ∧ W.cell? ⟨w.heap.size + 1, 3, none⟩ = some (.slice c_bA c.brakes.length c_bc) ∧ W.cell? ⟨w.heap.size + 1, 4, none⟩ = some (.slice c_hA c.heats.length c_hc) ∧ W.cell? ⟨w.heap.size + 1, 5, none⟩ = some (.bool c.hooks)))) ∧ W.cell? ⟨rb, i, none⟩ = some (.slice rA l.length rc))) := fun W hW =>
              ⟨HKP.out W (HB9.out.trans (hW.mono HB9.out.size)), (HROW.out W hW).1⟩
            have HW9 := Lib.hid (HB2.out.trans (HB9.out.mono HB2.out.size))
            clear hrow hl hrb0 hrl hD
            have hfl0 := HFE.out l
            cases hfl : f l
            · have HD2 := Lib.hid (HON2.out hfl)
              have HFL := Lib.hid (hfl0.trans hfl)
              clear hfl hfl0
              go_upto_region 13 with fail
              go_cut [60] (fun v wx => v = .bool false ∧ Hid (Below wq.heap.size wq wx))
              case first =>
                have hS := HSS.out _ (Below.refl _ _).drew
                refine wp_region_L (by kernel_rfl) (fun W => ((((W.cell? ⟨w.heap.size, 0, none⟩ = some (.int .i64 n.stops) ∧ W.cell? ⟨w.heap.size, 1, none⟩ = some (.slice n_tA n.tracks.length n_tc) ∧ W.cell? ⟨w.heap.size, 2, none⟩ = some (.slice n_sA n.shops.length n_sc)) ∧ (W.cell? ⟨w.heap.size + 1, 0, none⟩ = some (.slice c_gA c.gauges.length c_gc) ∧ W.cell? ⟨w.heap.size + 1, 1, none⟩ = some (.int .i64 c.size) ∧ W.cell? ⟨w.heap.size + 1, 2, none⟩ = some (.int .i64 c.load) ∧ W.cell? ⟨w.heap.size + 1, 3, none⟩ = some (.slice c_bA c.brakes.length c_bc) ∧ W.cell? ⟨w.heap.size + 1, 4, none⟩ = some (.slice c_hA c.heats.length c_hc) ∧ W.cell? ⟨w.heap.size + 1, 5, none⟩ = some (.bool c.hooks)))) ∧ W.cell? ⟨rb, i, none⟩ = some (.slice rA l.length rc))) [] ?_
                refine wpAnyL_take (i := 0) (v := ?vd_0) rfl (by kernel_rfl) (by kernel_rfl) (by kernel_rfl) (by kernel_rfl) (by rfl) (fun _ _ _ h => h) hS (Or.inl ⟨by rfl, ?hyd_0⟩) ?hrd_0
                case hyd_0 => (intro w hSw; (try dsimp only at hSw); go_simp; (try rfl))
                simp only [List.getElem_toArray, List.getElem_cons_zero, Act.put, List.setIfInBounds_toArray, List.set_cons_zero, List.set_cons_succ]
                refine wpAnyL_take (i := 1) (v := ?vd_1) rfl (by kernel_rfl) (by kernel_rfl) (by kernel_rfl) (by kernel_rfl) (by rfl) (fun _ _ _ h => h) hS (Or.inl ⟨by rfl, ?hyd_1⟩) ?hrd_1
                case hyd_1 => (intro w hSw; (try dsimp only at hSw); go_simp; (try rfl))
                simp only [List.getElem_toArray, List.getElem_cons_succ, List.getElem_cons_zero, Act.put, List.setIfInBounds_toArray, List.set_cons_zero, List.set_cons_succ]
                refine wpAnyL_take (i := 2) (v := ?vd_2) rfl (by kernel_rfl) (by kernel_rfl) (by kernel_rfl) (by kernel_rfl) (by rfl) (fun _ _ _ h => h) hS (Or.inl ⟨by rfl, ?hyd_2⟩) ?hrd_2
                case hyd_2 => (intro w hSw; (try dsimp only at hSw); go_simp; (try rfl))
                simp only [List.getElem_toArray, List.getElem_cons_succ, List.getElem_cons_zero, Act.put, List.setIfInBounds_toArray, List.set_cons_zero, List.set_cons_succ]
                refine wpAnyL_take (i := 3) (v := ?vd_3) rfl (by kernel_rfl) (by kernel_rfl) (by kernel_rfl) (by kernel_rfl) (by rfl) (fun _ _ _ h => h) hS (Or.inl ⟨by rfl, ?hyd_3⟩) ?hrd_3
                case hyd_3 => (intro w hSw; (try dsimp only at hSw); go_simp; (try rfl))
                simp only [List.getElem_toArray, List.getElem_cons_succ, List.getElem_cons_zero, Act.put, List.setIfInBounds_toArray, List.set_cons_zero, List.set_cons_succ]
                refine wpAnyL_take (i := 4) (v := ?vd_4) rfl (by kernel_rfl) (by kernel_rfl) (by kernel_rfl) (by kernel_rfl) (by rfl) (fun _ _ _ h => h) hS (Or.inl ⟨by rfl, ?hyd_4⟩) ?hrd_4
                case hyd_4 => (intro w hSw; (try dsimp only at hSw); go_simp; (try rfl))
                simp only [List.getElem_toArray, List.getElem_cons_succ, List.getElem_cons_zero, Act.put, List.setIfInBounds_toArray, List.set_cons_zero, List.set_cons_succ]
                refine wpAnyL_take (i := 5) (v := ?vd_5) rfl (by kernel_rfl) (by kernel_rfl) (by kernel_rfl) (by kernel_rfl) (by rfl) (fun _ _ _ h => h) hS (Or.inl ⟨by rfl, ?hyd_5⟩) ?hrd_5
                case hyd_5 => (intro w hSw; (try dsimp only at hSw); go_simp; (try rfl))
                simp only [List.getElem_toArray, List.getElem_cons_succ, List.getElem_cons_zero, Act.put, List.setIfInBounds_toArray, List.set_cons_zero, List.set_cons_succ]
                refine wpAnyL_take (i := 7) (v := ?vd_7) rfl (by kernel_rfl) (by kernel_rfl) (by kernel_rfl) (by kernel_rfl) (by rfl) (fun _ _ _ h => h) hS (Or.inl ⟨by rfl, ?hyd_7⟩) ?hrd_7
                case hyd_7 => (intro w hSw; (try dsimp only at hSw); go_simp; (try rfl))
                simp only [List.getElem_toArray, List.getElem_cons_succ, List.getElem_cons_zero, Act.put, List.setIfInBounds_toArray, List.set_cons_zero, List.set_cons_succ]
                refine wpAnyL_take (i := 8) (v := ?vd_8) rfl (by kernel_rfl) (by kernel_rfl) (by kernel_rfl) (by kernel_rfl) (by rfl) (fun _ _ _ h => h) hS (Or.inl ⟨by rfl, ?hyd_8⟩) ?hrd_8
                case hyd_8 => (intro w hSw; (try dsimp only at hSw); go_simp; (try rfl))
                simp only [List.getElem_toArray, List.getElem_cons_succ, List.getElem_cons_zero, Act.put, List.setIfInBounds_toArray, List.set_cons_zero, List.set_cons_succ]
                refine wpAnyL_take (i := 9) (v := ?vd_9) rfl (by kernel_rfl) (by kernel_rfl) (by kernel_rfl) (by kernel_rfl) (by rfl) (fun _ _ _ h => h) hS (Or.inl ⟨by rfl, ?hyd_9⟩) ?hrd_9
                case hyd_9 => (intro w hSw; (try dsimp only at hSw); go_simp; (try rfl))
                simp only [List.getElem_toArray, List.getElem_cons_succ, List.getElem_cons_zero, Act.put, List.setIfInBounds_toArray, List.set_cons_zero, List.set_cons_succ]
                refine wpAnyL_take (i := 10) (v := ?vd_10) rfl (by kernel_rfl) (by kernel_rfl) (by kernel_rfl) (by kernel_rfl) (by rfl) (fun _ _ _ h => h) hS (Or.inl ⟨by rfl, ?hyd_10⟩) ?hrd_10
                case hyd_10 => (intro w hSw; (try dsimp only at hSw); go_simp; (try rfl))
                simp only [List.getElem_toArray, List.getElem_cons_succ, List.getElem_cons_zero, Act.put, List.setIfInBounds_toArray, List.set_cons_zero, List.set_cons_succ]
                refine wpAnyL_one (i := 6) rfl (by kernel_rfl) ?_
                intro Kq hKq
                go_simp
                refine (HGV.out wq.drew rA l rc HW9.out.drew (HROW.out _ (Below.refl _ _).drew).2 HSUB.out).mono ?_
                rintro e u0 ⟨e1, e2, e3, e4, e5, e6, rfl, hcr, hb⟩
                have HU0 : Hid (Below wq.heap.size wq u0) := (Below.refl wq.heap.size wq).drew.trans hb
                have HCR := Lib.hid hcr
                have hS := HSS.out _ HU0.out
                refine hKq.out _ _ hS (fun _ => ?_)
                clear hKq Kq hb hcr
                try simp only [Act.put, List.setIfInBounds_toArray, List.set_cons_zero, List.set_cons_succ]
                refine wpAnyL_one (i := 11) rfl (by kernel_rfl) ?_
                intro Kq hKq
                go_simp
                refine (HC.out u0 (Pl.given c l) e1 e2 e3 e4 e5 e6 (HW9.out.trans (HU0.out.mono HW9.out.size)) HCR.out).mono ?_
                rintro e u1 ⟨rfl, hb⟩
                rw [HFL.out]
                have HU : Hid (Below wq.heap.size wq u1) := HU0.out.trans (hb.mono HU0.out.size)
                have hS := HSS.out _ HU.out
                refine hKq.out _ _ hS (fun _ => ?_)
                clear hKq Kq hb
                try simp only [Act.put, List.setIfInBounds_toArray, List.set_cons_zero, List.set_cons_succ]
                refine wpAnyL_done (by kernel_rfl) ?_
                try simp only [Act.put]
                go_wp2_with fail
                go_meet
                exact ⟨rfl, HU⟩
              case rest =>
              obtain ⟨rfl, HU⟩ := hcut
              obtain ⟨u1, rfl⟩ : ∃ u1, u1 = wc := ⟨_, rfl⟩
              go_wp2_with fail
              go_roundw
              case rel => exact ⟨i + 1, by omega, by go_num, HD2, hB9q.out.trans (HU.out.mono hB9q.out.size)⟩
              case measure => simp [intOf]; omega
            · have HE := Lib.hid (HAT2.out hfl)
              have HFL := Lib.hid (hfl0.trans hfl)
              clear hfl hfl0
              go_upto_region 13 with fail
              go_cut [60] (fun v wx => v = .bool true ∧ Hid (Below wq.heap.size wq wx))
              case first =>
                have hS := HSS.out _ (Below.refl _ _).drew
                refine wp_region_L (by kernel_rfl) (fun W => ((((W.cell? ⟨w.heap.size, 0, none⟩ = some (.int .i64 n.stops) ∧ W.cell? ⟨w.heap.size, 1, none⟩ = some (.slice n_tA n.tracks.length n_tc) ∧ W.cell? ⟨w.heap.size, 2, none⟩ = some (.slice n_sA n.shops.length n_sc)) ∧ (W.cell? ⟨w.heap.size + 1, 0, none⟩ = some (.slice c_gA c.gauges.length c_gc) ∧ W.cell? ⟨w.heap.size + 1, 1, none⟩ = some (.int .i64 c.size) ∧ W.cell? ⟨w.heap.size + 1, 2, none⟩ = some (.int .i64 c.load) ∧ W.cell? ⟨w.heap.size + 1, 3, none⟩ = some (.slice c_bA c.brakes.length c_bc) ∧ W.cell? ⟨w.heap.size + 1, 4, none⟩ = some (.slice c_hA c.heats.length c_hc) ∧ W.cell? ⟨w.heap.size + 1, 5, none⟩ = some (.bool c.hooks)))) ∧ W.cell? ⟨rb, i, none⟩ = some (.slice rA l.length rc))) [] ?_
                refine wpAnyL_take (i := 0) (v := ?ve_0) rfl (by kernel_rfl) (by kernel_rfl) (by kernel_rfl) (by kernel_rfl) (by rfl) (fun _ _ _ h => h) hS (Or.inl ⟨by rfl, ?hye_0⟩) ?hre_0
                case hye_0 => (intro w hSw; (try dsimp only at hSw); go_simp; (try rfl))
                simp only [List.getElem_toArray, List.getElem_cons_zero, Act.put, List.setIfInBounds_toArray, List.set_cons_zero, List.set_cons_succ]
                refine wpAnyL_take (i := 1) (v := ?ve_1) rfl (by kernel_rfl) (by kernel_rfl) (by kernel_rfl) (by kernel_rfl) (by rfl) (fun _ _ _ h => h) hS (Or.inl ⟨by rfl, ?hye_1⟩) ?hre_1
                case hye_1 => (intro w hSw; (try dsimp only at hSw); go_simp; (try rfl))
                simp only [List.getElem_toArray, List.getElem_cons_succ, List.getElem_cons_zero, Act.put, List.setIfInBounds_toArray, List.set_cons_zero, List.set_cons_succ]
                refine wpAnyL_take (i := 2) (v := ?ve_2) rfl (by kernel_rfl) (by kernel_rfl) (by kernel_rfl) (by kernel_rfl) (by rfl) (fun _ _ _ h => h) hS (Or.inl ⟨by rfl, ?hye_2⟩) ?hre_2
                case hye_2 => (intro w hSw; (try dsimp only at hSw); go_simp; (try rfl))
                simp only [List.getElem_toArray, List.getElem_cons_succ, List.getElem_cons_zero, Act.put, List.setIfInBounds_toArray, List.set_cons_zero, List.set_cons_succ]
                refine wpAnyL_take (i := 3) (v := ?ve_3) rfl (by kernel_rfl) (by kernel_rfl) (by kernel_rfl) (by kernel_rfl) (by rfl) (fun _ _ _ h => h) hS (Or.inl ⟨by rfl, ?hye_3⟩) ?hre_3
                case hye_3 => (intro w hSw; (try dsimp only at hSw); go_simp; (try rfl))
                simp only [List.getElem_toArray, List.getElem_cons_succ, List.getElem_cons_zero, Act.put, List.setIfInBounds_toArray, List.set_cons_zero, List.set_cons_succ]
                refine wpAnyL_take (i := 4) (v := ?ve_4) rfl (by kernel_rfl) (by kernel_rfl) (by kernel_rfl) (by kernel_rfl) (by rfl) (fun _ _ _ h => h) hS (Or.inl ⟨by rfl, ?hye_4⟩) ?hre_4
                case hye_4 => (intro w hSw; (try dsimp only at hSw); go_simp; (try rfl))
                simp only [List.getElem_toArray, List.getElem_cons_succ, List.getElem_cons_zero, Act.put, List.setIfInBounds_toArray, List.set_cons_zero, List.set_cons_succ]
                refine wpAnyL_take (i := 5) (v := ?ve_5) rfl (by kernel_rfl) (by kernel_rfl) (by kernel_rfl) (by kernel_rfl) (by rfl) (fun _ _ _ h => h) hS (Or.inl ⟨by rfl, ?hye_5⟩) ?hre_5
                case hye_5 => (intro w hSw; (try dsimp only at hSw); go_simp; (try rfl))
                simp only [List.getElem_toArray, List.getElem_cons_succ, List.getElem_cons_zero, Act.put, List.setIfInBounds_toArray, List.set_cons_zero, List.set_cons_succ]
                refine wpAnyL_take (i := 7) (v := ?ve_7) rfl (by kernel_rfl) (by kernel_rfl) (by kernel_rfl) (by kernel_rfl) (by rfl) (fun _ _ _ h => h) hS (Or.inl ⟨by rfl, ?hye_7⟩) ?hre_7
                case hye_7 => (intro w hSw; (try dsimp only at hSw); go_simp; (try rfl))
                simp only [List.getElem_toArray, List.getElem_cons_succ, List.getElem_cons_zero, Act.put, List.setIfInBounds_toArray, List.set_cons_zero, List.set_cons_succ]
                refine wpAnyL_take (i := 8) (v := ?ve_8) rfl (by kernel_rfl) (by kernel_rfl) (by kernel_rfl) (by kernel_rfl) (by rfl) (fun _ _ _ h => h) hS (Or.inl ⟨by rfl, ?hye_8⟩) ?hre_8
                case hye_8 => (intro w hSw; (try dsimp only at hSw); go_simp; (try rfl))
                simp only [List.getElem_toArray, List.getElem_cons_succ, List.getElem_cons_zero, Act.put, List.setIfInBounds_toArray, List.set_cons_zero, List.set_cons_succ]
                refine wpAnyL_take (i := 9) (v := ?ve_9) rfl (by kernel_rfl) (by kernel_rfl) (by kernel_rfl) (by kernel_rfl) (by rfl) (fun _ _ _ h => h) hS (Or.inl ⟨by rfl, ?hye_9⟩) ?hre_9
                case hye_9 => (intro w hSw; (try dsimp only at hSw); go_simp; (try rfl))
                simp only [List.getElem_toArray, List.getElem_cons_succ, List.getElem_cons_zero, Act.put, List.setIfInBounds_toArray, List.set_cons_zero, List.set_cons_succ]
                refine wpAnyL_take (i := 10) (v := ?ve_10) rfl (by kernel_rfl) (by kernel_rfl) (by kernel_rfl) (by kernel_rfl) (by rfl) (fun _ _ _ h => h) hS (Or.inl ⟨by rfl, ?hye_10⟩) ?hre_10
                case hye_10 => (intro w hSw; (try dsimp only at hSw); go_simp; (try rfl))
                simp only [List.getElem_toArray, List.getElem_cons_succ, List.getElem_cons_zero, Act.put, List.setIfInBounds_toArray, List.set_cons_zero, List.set_cons_succ]
                refine wpAnyL_one (i := 6) rfl (by kernel_rfl) ?_
                intro Kq hKq
                go_simp
                refine (HGV.out wq.drew rA l rc HW9.out.drew (HROW.out _ (Below.refl _ _).drew).2 HSUB.out).mono ?_
                rintro e u0 ⟨e1, e2, e3, e4, e5, e6, rfl, hcr, hb⟩
                have HU0 : Hid (Below wq.heap.size wq u0) := (Below.refl wq.heap.size wq).drew.trans hb
                have HCR := Lib.hid hcr
                have hS := HSS.out _ HU0.out
                refine hKq.out _ _ hS (fun _ => ?_)
                clear hKq Kq hb hcr
                try simp only [Act.put, List.setIfInBounds_toArray, List.set_cons_zero, List.set_cons_succ]
                refine wpAnyL_one (i := 11) rfl (by kernel_rfl) ?_
                intro Kq hKq
                go_simp
                refine (HC.out u0 (Pl.given c l) e1 e2 e3 e4 e5 e6 (HW9.out.trans (HU0.out.mono HW9.out.size)) HCR.out).mono ?_
                rintro e u1 ⟨rfl, hb⟩
                rw [HFL.out]
                have HU : Hid (Below wq.heap.size wq u1) := HU0.out.trans (hb.mono HU0.out.size)
                have hS := HSS.out _ HU.out
                refine hKq.out _ _ hS (fun _ => ?_)
                clear hKq Kq hb
                try simp only [Act.put, List.setIfInBounds_toArray, List.set_cons_zero, List.set_cons_succ]
                refine wpAnyL_done (by kernel_rfl) ?_
                try simp only [Act.put]
                go_wp2_with fail
                go_meet
                exact ⟨rfl, HU⟩
              case rest =>
              obtain ⟨rfl, HU⟩ := hcut
              obtain ⟨u1, rfl⟩ : ∃ u1, u1 = wc := ⟨_, rfl⟩
              obtain ⟨z0, hz⟩ := HROW.out _ HU.out
              have HZ := Lib.hid hz
              clear hz
              go_wp2_with fail
              go_ret2
              exact ⟨rA, _, rc, 0, rfl, HW9.out.trans (HU.out.mono HW9.out.size), fun h => absurd rfl h, (fun _ h => by rw [HE.out] at h; cases h), (fun l2 _ h => by rw [HE.out] at h; injection h with h; subst h; exact ⟨rfl, rfl, HZ.out⟩)⟩
          · obtain rfl : i = LS.length := by omega
            have hilf : decide ((LS.length : Int) < (LS.length : Int)) = false := by simp
            obtain ⟨hm1, hn2⟩ := HNX.out hD.out
            have HN2 := Lib.hid hn2
            clear hD hn2
            go_wp2_with fail
            go_roundw
            case rel => exact ⟨mm + 1, hm1, by go_num, HN2, HBU.out⟩
            case measure => simp [intOf]; omega
  · have hq : (Pl.asked n c fr g ds != 0) = true := by rw [bne_iff_ne]; exact hA
    have HA : Hid (Pl.asked n c fr g ds ≠ 0) := hA
    generalize Pl.lacks n c fr g ds = R
    generalize Pl.asked n c fr g ds = q at hA hq HA HAS
    clear hA
    go_enter Tryz.func14, Tryz.ntmps14
    go_upto_region 1 with fail
    rw [← HW2.out]
    go_wp2_with (go_at_call 43; refine HAS.out.mono ?_; rintro e w5 ⟨rfl, hb5⟩; have HB5 := Lib.hid hb5; clear hb5 x0 x1 x2 y0 y1 y2 y3 y4 y5)
    go_ret2
    exact listPost_asked HA.out (HB2.out.trans (HB5.out.mono HB2.out.size))
end Go.Proofs.YtpbjpochjagicaaGreat
