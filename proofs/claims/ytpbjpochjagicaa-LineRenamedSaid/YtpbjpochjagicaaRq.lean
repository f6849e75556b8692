/- Plain laws and rows for LineRenamed: a net's lines are written over, one by one; the net with other numbers is fine, and its ways are as long. -/
import Derived.Test.YtpbjpochjagicaaRn
import Derived.Test.YtpbjpochjagicaaW49
import Derived.Test.YtpbjpochjagicaaW54
import Derived.Test.YtpbjpochjagicaaW64
namespace Go.Proofs.Ytpbjpochjagicaa
open Go.RowKit

structure TrkAs (σ : Int → Int) (t u : Pl.Trk) : Prop where
  same : u.km = t.km ∧ u.gauge = t.gauge ∧ u.room = t.room ∧ u.brake = t.brake ∧ u.heat = t.heat ∧ u.load = t.load ∧ u.ferry = t.ferry
  ends : (u.a = σ t.a ∧ u.b = σ t.b) ∨ (u.a = σ t.b ∧ u.b = σ t.a)
structure RenTo (n : Pl.Nt) (σ : Int → Int) (qs : List Int) (i : Nat) (ys : List Pl.Trk) : Prop where
  len : ys.length = n.tracks.length
  done : ∀ j, j < i → TrkAs σ (n.tracks.getD j default) (ys.getD (qs.getD j 0).toNat default)
theorem RenTo.step {n : Pl.Nt} {σ : Int → Int} {qs : List Int} {i q : Nat} {ys : List Pl.Trk} (h : RenTo n σ qs i ys) (hq : Mixed n.tracks.length qs) (hi : i < n.tracks.length) (he : qs.getD i 0 = (q : Int)) {u : Pl.Trk} (hu : TrkAs σ (n.tracks.getD i default) u) : RenTo n σ qs (i + 1) (ys.set q u) := by
  have hql : q < n.tracks.length := by have := hq.inn i hi; omega
  refine ⟨by rw [List.length_set]; exact h.len, fun j hj => ?_⟩
  by_cases hji : j = i
  · subst hji
    rw [he]
    have : (ys.set q u).getD ((q : Int)).toNat default = u := by
      rw [Int.toNat_natCast, List.getD_eq_getElem?_getD, List.getElem?_set_self (by rw [h.len]; exact hql)]
      rfl
    rw [this]
    exact hu
  · have hjq : (qs.getD j 0).toNat ≠ q := fun e => hji (hq.inj j i (by omega) hi (by have := hq.inn j (by omega); omega))
    have hd := h.done j (by omega)
    generalize (qs.getD j 0).toNat = z at hjq hd ⊢
    have : (ys.set q u).getD z default = ys.getD z default := by
      rw [List.getD_eq_getElem?_getD, List.getD_eq_getElem?_getD, List.getElem?_set_ne (Ne.symm hjq)]
    rw [this]
    exact hd
theorem flat_set : ∀ (ts : List Pl.Trk) (k : Nat) (t : Pl.Trk), k < ts.length → (((((((((ts.flatMap trkCells).set (k * 9 + 0) (.int .i64 t.a)).set (k * 9 + 1) (.int .i64 t.b)).set (k * 9 + 2) (.int .i64 t.km)).set (k * 9 + 3) (.int .i64 t.gauge)).set (k * 9 + 4) (.int .i64 t.room)).set (k * 9 + 5) (.int .i64 t.brake)).set (k * 9 + 6) (.int .i64 t.heat)).set (k * 9 + 7) (.int .i64 t.load)).set (k * 9 + 8) (.bool t.ferry) = (ts.set k t).flatMap trkCells
  | [], k, t, h => by simp at h
  | x :: l, 0, t, _ => by simp [trkCells]
  | x :: l, k + 1, t, h => by
    have ih := flat_set l k t (by simpa using h)
    have e : ∀ (ys : List Value) (j : Nat) (v : Value), (trkCells x ++ ys).set ((k + 1) * 9 + j) v = trkCells x ++ ys.set (k * 9 + j) v := fun ys j v => by
      rw [List.set_append_right _ _ (by simp [trkCells]; omega)]
      congr 2
      simp [trkCells]
      omega
    simp only [List.set_cons_succ, List.flatMap_cons, e, ih]
theorem trks_put {w : World} {base g c : Nat} {ts : List Pl.Trk} (h : OwnTrks w base (some ⟨g, 0, none⟩) c ts) {k : Nat} (hk : k < ts.length) (t : Pl.Trk) :
    OwnTrks (((((((((w.setCell ⟨g, k * 9, none⟩ (.int .i64 t.a)).setCell ⟨g, k * 9 + 1, none⟩ (.int .i64 t.b)).setCell ⟨g, k * 9 + 2, none⟩ (.int .i64 t.km)).setCell ⟨g, k * 9 + 3, none⟩ (.int .i64 t.gauge)).setCell ⟨g, k * 9 + 4, none⟩ (.int .i64 t.room)).setCell ⟨g, k * 9 + 5, none⟩ (.int .i64 t.brake)).setCell ⟨g, k * 9 + 6, none⟩ (.int .i64 t.heat)).setCell ⟨g, k * 9 + 7, none⟩ (.int .i64 t.load)).setCell ⟨g, k * 9 + 8, none⟩ (.bool t.ferry)) base (some ⟨g, 0, none⟩) c (ts.set k t) ∧ w.grownBy (((((((((w.setCell ⟨g, k * 9, none⟩ (.int .i64 t.a)).setCell ⟨g, k * 9 + 1, none⟩ (.int .i64 t.b)).setCell ⟨g, k * 9 + 2, none⟩ (.int .i64 t.km)).setCell ⟨g, k * 9 + 3, none⟩ (.int .i64 t.gauge)).setCell ⟨g, k * 9 + 4, none⟩ (.int .i64 t.room)).setCell ⟨g, k * 9 + 5, none⟩ (.int .i64 t.brake)).setCell ⟨g, k * 9 + 6, none⟩ (.int .i64 t.heat)).setCell ⟨g, k * 9 + 7, none⟩ (.int .i64 t.load)).setCell ⟨g, k * 9 + 8, none⟩ (.bool t.ferry)) (some g) := by
  have h0 := World.ownsRow.stored (g := g) (n := ts.length) (cap := c) h (k * 9) (.int .i64 t.a)
  have h1 := h0.1.stored (k * 9 + 1) (.int .i64 t.b)
  have h2 := h1.1.stored (k * 9 + 2) (.int .i64 t.km)
  have h3 := h2.1.stored (k * 9 + 3) (.int .i64 t.gauge)
  have h4 := h3.1.stored (k * 9 + 4) (.int .i64 t.room)
  have h5 := h4.1.stored (k * 9 + 5) (.int .i64 t.brake)
  have h6 := h5.1.stored (k * 9 + 6) (.int .i64 t.heat)
  have h7 := h6.1.stored (k * 9 + 7) (.int .i64 t.load)
  have h8 := h7.1.stored (k * 9 + 8) (.bool t.ferry)
  have hr := h8.1
  have e := flat_set ts k t hk
  rw [Nat.add_zero] at e
  rw [e] at hr
  unfold OwnTrks
  rw [List.length_set]
  exact ⟨hr, ((((((((h0.2.trans h1.2).trans h2.2).trans h3.2).trans h4.2).trans h5.2).trans h6.2).trans h7.2).trans h8.2)⟩
theorem row_nine {w : World} {base g c : Nat} {ts : List Pl.Trk} (h : OwnTrks w base (some ⟨g, 0, none⟩) c ts) {k : Nat} (hk : k < ts.length) :
    w.cell? ⟨g, k * 9, none⟩ = some (.int .i64 (ts.getD k default).a) ∧ w.cell? ⟨g, k * 9 + 1, none⟩ = some (.int .i64 (ts.getD k default).b) ∧ w.cell? ⟨g, k * 9 + 2, none⟩ = some (.int .i64 (ts.getD k default).km) ∧ w.cell? ⟨g, k * 9 + 3, none⟩ = some (.int .i64 (ts.getD k default).gauge) ∧ w.cell? ⟨g, k * 9 + 4, none⟩ = some (.int .i64 (ts.getD k default).room) ∧ w.cell? ⟨g, k * 9 + 5, none⟩ = some (.int .i64 (ts.getD k default).brake) ∧ w.cell? ⟨g, k * 9 + 6, none⟩ = some (.int .i64 (ts.getD k default).heat) ∧ w.cell? ⟨g, k * 9 + 7, none⟩ = some (.int .i64 (ts.getD k default).load) ∧ w.cell? ⟨g, k * 9 + 8, none⟩ = some (.bool (ts.getD k default).ferry) ∧ w.frozen? ⟨g, k * 9, none⟩ = false ∧ w.frozen? ⟨g, k * 9 + 1, none⟩ = false ∧ w.frozen? ⟨g, k * 9 + 2, none⟩ = false ∧ w.frozen? ⟨g, k * 9 + 3, none⟩ = false ∧ w.frozen? ⟨g, k * 9 + 4, none⟩ = false ∧ w.frozen? ⟨g, k * 9 + 5, none⟩ = false ∧ w.frozen? ⟨g, k * 9 + 6, none⟩ = false ∧ w.frozen? ⟨g, k * 9 + 7, none⟩ = false ∧ w.frozen? ⟨g, k * 9 + 8, none⟩ = false := by
  have hf : ∀ j, w.frozen? ⟨g, j, none⟩ = false := fun j => World.ownsRow.frozenAt (g := g) (n := ts.length) (cap := c) h j
  have hg : ts.getD k default = ts[k] := by simp [List.getD_eq_getElem?_getD, List.getElem?_eq_getElem hk]
  have hc : ∀ j, j < 9 → w.cell? ⟨g, k * 9 + j, none⟩ = (trkCells (ts.getD k default))[j]? := fun j hj => by
    rw [World.ownsRow.cellAt (g := g) (n := ts.length) (cap := c) h (k * 9 + j) (by omega), hg]
    exact flat_at ts k j ts[k] hj (List.getElem?_eq_getElem hk)
  exact ⟨hc 0 (by omega), hc 1 (by omega), hc 2 (by omega), hc 3 (by omega), hc 4 (by omega), hc 5 (by omega), hc 6 (by omega), hc 7 (by omega), hc 8 (by omega), hf _, hf _, hf _, hf _, hf _, hf _, hf _, hf _, hf _⟩
theorem rt_other {w w' : World} {P base size n : Nat} {e T : TypeId} {v : Value} {xs : List Value} {z : Array Value} (h : w.ownsRow base e size v n xs) (hg : w.grownBy w' (some P)) (hP : w.heap[P]? = some (.cells z T (0, 0))) (hT : T ≠ e) : w'.ownsRow base e size v n xs := by
  refine ⟨h.1, ?_⟩
  rcases h.2 with h2 | ⟨b, cap, cur, hv, hg2, hh, r⟩
  · exact .inl h2
  · refine .inr ⟨b, cap, cur, hv, hg2, (hg.block b (lt_of_block hh) (fun e2 => ?_)).trans hh, r⟩
    injection e2 with e2
    subst e2
    rw [hP] at hh
    injection hh with hh
    injection hh with _ hh _
    exact hT hh
theorem rt_put {w w' : World} {P : Nat} (h : w.grownBy w' (some P)) (i : Nat) (v : Value) : w.grownBy (w'.setCell ⟨P, i, none⟩ v) (some P) :=
  ⟨h.os, h.tape, h.output, by rw [size_setCell]; exact h.size, fun k hk hn => (Below.heap_setCell w' ⟨P, i, none⟩ v k (fun e => hn (by rw [e]))).trans (h.block k hk hn)⟩
theorem rt_block {w : World} {base g c k size n : Nat} {e : TypeId} {xs : List Value} (h : w.ownsRow base e size (.slice (some ⟨g, 0, none⟩) n c) k xs) : ∃ cur, w.heap[g]? = some (.cells cur e (0, 0)) := by
  rcases h.2 with ⟨h1, _⟩ | ⟨b, cap, cur, hv, _, hh, _⟩
  · injection h1 with h1 _ _
    cases h1
  · injection hv with hv _ _
    injection hv with hv
    injection hv with hv _ _
    subst hv
    exact ⟨cur, hh⟩
def shopsTo (shops ps : List Int) (k : Nat) : List Int := (Pl.nums k).filter (fun s => decide (0 ≤ idx shops (idx ps s)))
theorem rt_nums (k : Nat) : Pl.nums (k + 1) = Pl.nums k ++ [(k : Int)] := by simp [Pl.nums, List.range_succ]
theorem shopsTo_in {shops ps : List Int} {k : Nat} (h : 0 ≤ idx shops (idx ps (k : Int))) : shopsTo shops ps (k + 1) = shopsTo shops ps k ++ [(k : Int)] := by
  unfold shopsTo
  rw [rt_nums, List.filter_append]
  simp [h]
theorem shopsTo_out {shops ps : List Int} {k : Nat} (h : ¬ 0 ≤ idx shops (idx ps (k : Int))) : shopsTo shops ps (k + 1) = shopsTo shops ps k := by
  unfold shopsTo
  rw [rt_nums, List.filter_append]
  simp [h]
theorem shopsTo_len (shops ps : List Int) (k : Nat) : (shopsTo shops ps k).length ≤ k := by
  unfold shopsTo
  refine Nat.le_trans (List.length_filter_le _ _) ?_
  simp [Pl.nums]
theorem shopsTo_mem {shops ps : List Int} {k : Nat} {s : Int} : s ∈ shopsTo shops ps k ↔ (0 ≤ s ∧ s < k) ∧ 0 ≤ idx shops (idx ps s) := by
  unfold shopsTo
  rw [List.mem_filter]
  simp only [Pl.nums, List.mem_map, List.mem_range, decide_eq_true_eq]
  constructor
  · rintro ⟨⟨a, ha, rfl⟩, h⟩
    exact ⟨⟨by omega, by omega⟩, h⟩
  · rintro ⟨⟨h0, h1⟩, h⟩
    exact ⟨⟨s.toNat, by omega, by omega⟩, h⟩
theorem rt_own {w w1 w2 : World} {P : Nat} {row : Option Nat} (h : w.grownBy w1 (some P)) (k : w1.grownBy w2 row) (hr : ∀ i, row = some i → w.heap.size ≤ i) : w.grownBy w2 (some P) :=
  ⟨k.os.trans h.os, k.tape.trans h.tape, k.output.trans h.output, Nat.le_trans h.size k.size, fun i hi hn => (k.block i (Nat.lt_of_lt_of_le hi h.size) (fun e => by have := hr i e.symm; omega)).trans (h.block i hi hn)⟩
theorem rt_new {w w' : World} {P : Nat} (h : w.grownBy w' (some P)) (o : Obj) : w.grownBy (w'.alloc o) (some P) := h.trans (World.grownBy_alloc _ o _)
theorem rt_drewN {w w' : World} {P : Nat} (h : w.grownBy w' (some P)) (m : Nat) : w.grownBy (w'.drewN m) (some P) := ⟨h.os, h.tape, h.output, h.size, h.block⟩
end Go.Proofs.Ytpbjpochjagicaa

namespace Go.Proofs.Ytpbjpochjagicaa
open Go.RowKit

theorem asked_at {n : Pl.Nt} {c : Pl.Cch} {fr g ds : Int} (h : Pl.question n c fr g = 0) (h0 : 0 ≤ ds) (h1 : ds ≤ n.stops - 1) : Pl.asked n c fr g ds = 0 := by
  have ho : Pl.out ds 0 (n.stops - 1) = false := by simp [Pl.out]; omega
  rw [Pl.asked, h, ho]
  simp

theorem idxFrom_at (n : Int) : ∀ (xs : List Int) (k : Int), (∀ i j, i < xs.length → j < xs.length → xs.getD i 0 = xs.getD j 0 → i = j) → ∀ a, a < xs.length → xs.getD a 0 = n → idxFrom n xs k = k + a
  | [], _, _, a, ha, _ => by simp at ha
  | x :: l, k, h, 0, _, he => by
    have : x = n := by simpa using he
    simp [idxFrom, this]
  | x :: l, k, h, a + 1, ha, he => by
    have hx : x ≠ n := fun e => by
      have := h 0 (a + 1) (by simp) ha (by rw [he]; simpa using e)
      omega
    rw [idxFrom, if_neg hx, idxFrom_at n l (k + 1) (fun i j hi hj e => by
      have := h (i + 1) (j + 1) (by simpa using hi) (by simpa using hj) (by simpa using e)
      omega) a (by simpa using ha) (by simpa using he)]
    omega
theorem Mixed.idx {n : Nat} {xs : List Int} (h : Mixed n xs) {a : Nat} (ha : a < n) : idx xs (xs.getD a 0) = (a : Int) := by
  have := idxFrom_at (xs.getD a 0) xs 0 (fun i j hi hj e => h.inj i j (by rw [← h.len]; exact hi) (by rw [← h.len]; exact hj) e) a (by rw [h.len]; exact ha) rfl
  simpa [Go.Proofs.Ytpbjpochjagicaa.idx] using this

section
variable {n : Pl.Nt} {ps qs : List Int} {ys : List Pl.Trk}
theorem renamed_of (hp : Mixed n.stops.toNat ps) (hq : Mixed n.tracks.length qs) (hR : RenTo n (fun s => ps.getD s.toNat 0) qs n.tracks.length ys) (hck : Pl.check n = 0) :
    Pl.Renamed n ⟨n.stops, ys, shopsTo n.shops ps n.stops.toNat⟩ (fun s => ps.getD s.toNat 0) (fun i => (qs.getD i 0).toNat) where
  len := hR.len
  tlt := fun i hi => by have := hq.inn i hi; show (qs.getD i 0).toNat < _; omega
  tsur := fun j hj => by
    obtain ⟨a, ha, he⟩ := hq.sur (t := (j : Int)) (by omega) (by omega)
    exact ⟨a, ha, by show (qs.getD a 0).toNat = j; omega⟩
  tr := fun i hi => (hR.done i hi).same
  ends := fun i hi => (hR.done i hi).ends
  inj := fun s s' h0 h1 h0' h1' he => by
    have := hp.inj s.toNat s'.toNat (by omega) (by omega) he
    omega
  shops := fun s h0 h1 => by
    have hb := hp.inn s.toNat (by omega)
    have hi := hp.idx (a := s.toNat) (by omega)
    show ps.getD s.toNat 0 ∈ shopsTo n.shops ps n.stops.toNat ↔ _
    rw [shopsTo_mem, hi, show ((s.toNat : Nat) : Int) = s by omega, idx_ge]
    exact ⟨fun h => h.2, fun h => ⟨hb, h⟩⟩
  inn := fun i hi => by
    have := trk_in hck hi
    have h1 := this.a1
    have h2 := this.b1
    exact ⟨this.a0, by omega, this.b0, by omega, this.ab⟩
theorem shopsTo_up (sh ps : List Int) : ∀ k : Nat, Upw 0 (k : Int) (shopsTo sh ps k)
  | 0 => by
    have : shopsTo sh ps 0 = [] := by simp [shopsTo, Pl.nums]
    rw [this]
    exact Upw.nil (by simp)
  | k + 1 => by
    by_cases h : 0 ≤ idx sh (idx ps (k : Int))
    · rw [shopsTo_in h]
      exact (shopsTo_up sh ps k).snoc (by omega)
    · rw [shopsTo_out h]
      exact (shopsTo_up sh ps k).more
theorem check_ren (hp : Mixed n.stops.toNat ps) (hq : Mixed n.tracks.length qs) (hR : RenTo n (fun s => ps.getD s.toNat 0) qs n.tracks.length ys) (hck : Pl.check n = 0) (h1 : 1 ≤ n.stops) (h6 : n.stops ≤ 6) (h8 : n.tracks.length ≤ 8) :
    Pl.check ⟨n.stops, ys, shopsTo n.shops ps n.stops.toNat⟩ = 0 := by
  have ho : Pl.out n.stops 1 6 = false := by simp [Pl.out]; omega
  have hte : Pl.tracksErr n.stops n.tracks = 0 := by
    unfold Pl.check at hck
    rw [ho, if_neg (by simp), if_neg (by omega)] at hck
    split at hck
    · assumption
    · assumption
  have hall : Pl.tracksErr n.stops ys = 0 := by
    refine Pl.tracksErr_all fun u hu => ?_
    obtain ⟨j, hj, rfl⟩ := List.getElem_of_mem hu
    have hjn : j < n.tracks.length := by rw [← hR.len]; exact hj
    obtain ⟨a, ha, he⟩ := hq.sur (t := (j : Int)) (by omega) (by omega)
    have hd := hR.done a ha
    have hx : ys.getD (qs.getD a 0).toNat default = ys[j] := by
      rw [he, Int.toNat_natCast]
      simp [List.getD_eq_getElem?_getD, List.getElem?_eq_getElem hj]
    rw [hx] at hd
    have ht := trk_in hck ha
    have hz : Pl.trackErr n.stops (n.tracks.getD a default) = 0 := by
      refine Pl.tracksErr_each hte _ ?_
      rw [List.getD_eq_getElem?_getD, List.getElem?_eq_getElem ha]
      exact List.getElem_mem ha
    obtain ⟨e1, e2, e3, e4, e5, e6, e7⟩ := hd.same
    have t0 := ht.a0; have t1 := ht.a1; have t2 := ht.b0; have t3 := ht.b1; have t4 := ht.ab
    have b1 := hp.inn (n.tracks.getD a default).a.toNat (by omega)
    have b2 := hp.inn (n.tracks.getD a default).b.toNat (by omega)
    have b3 : ps.getD (n.tracks.getD a default).a.toNat 0 ≠ ps.getD (n.tracks.getD a default).b.toNat 0 := fun e => by
      have := hp.inj _ _ (by omega) (by omega) e
      omega
    have hends := hd.ends
    generalize n.tracks.getD a default = t at *
    generalize ys[j] = u at *
    have hrest : (Pl.out t.km 1 99 || Pl.out t.gauge 1 3 || Pl.out t.room 1 9 || Pl.out t.brake 0 3 || Pl.out t.heat 0 3 || Pl.out t.load 1 20) = false := by
      have o3 : Pl.out t.a 0 (n.stops - 1) = false := by simp [Pl.out]; omega
      have o4 : Pl.out t.b 0 (n.stops - 1) = false := by simp [Pl.out]; omega
      rw [Pl.trackErr, o3, o4, if_neg (by simp), if_neg t4] at hz
      by_cases hb : (Pl.out t.km 1 99 || Pl.out t.gauge 1 3 || Pl.out t.room 1 9 || Pl.out t.brake 0 3 || Pl.out t.heat 0 3 || Pl.out t.load 1 20) = true
      · rw [if_pos hb] at hz; simp at hz
      · simpa using hb
    have hab : 0 ≤ u.a ∧ u.a ≤ n.stops - 1 ∧ 0 ≤ u.b ∧ u.b ≤ n.stops - 1 ∧ u.a ≠ u.b := by
      rcases hends with ⟨e1, e2⟩ | ⟨e1, e2⟩
      · rw [e1, e2]; exact ⟨by omega, by omega, by omega, by omega, b3⟩
      · rw [e1, e2]; exact ⟨by omega, by omega, by omega, by omega, Ne.symm b3⟩
    have o1 : Pl.out u.a 0 (n.stops - 1) = false := by simp [Pl.out]; omega
    have o2 : Pl.out u.b 0 (n.stops - 1) = false := by simp [Pl.out]; omega
    rw [Pl.trackErr, o1, o2, if_neg (by simp), if_neg hab.2.2.2.2, e1, e2, e3, e4, e5, e6, hrest]
    rfl
  rw [check_of_shops ho (by rw [hR.len]; exact h8) hall]
  have hu := shopsTo_up n.shops ps n.stops.toNat
  rw [show ((n.stops.toNat : Nat) : Int) = (n.stops - 1) + 1 by omega] at hu
  exact hu.rising 3
theorem asked_ren {c : Pl.Cch} {fr g ds : Int} (hp : Mixed n.stops.toNat ps) (hc : Pl.check ⟨n.stops, ys, shopsTo n.shops ps n.stops.toNat⟩ = 0) (h : Pl.asked n c fr g ds = 0) (f0 : 0 ≤ fr) (f1 : fr ≤ n.stops - 1) (_d0 : 0 ≤ ds) (d1 : ds ≤ n.stops - 1) :
    Pl.asked ⟨n.stops, ys, shopsTo n.shops ps n.stops.toNat⟩ c (ps.getD fr.toNat 0) g (ps.getD ds.toNat 0) = 0 := by
  obtain ⟨h1, _, h3⟩ := question_b (asked_q h).1
  obtain ⟨_, hf⟩ := both_check h1
  have b1 := hp.inn fr.toNat (by omega)
  have b2 := hp.inn ds.toNat (by omega)
  have hb : Pl.both ⟨n.stops, ys, shopsTo n.shops ps n.stops.toNat⟩ c = 0 := by simp [Pl.both, hc, hf]
  have ho : Pl.out (ps.getD fr.toNat 0) 0 (n.stops - 1) = false := by
    generalize ps.getD fr.toNat 0 = z at b1
    simp [Pl.out]
    omega
  refine asked_at ?_ b2.1 (by show _ ≤ n.stops - 1; omega)
  rw [Pl.question, if_neg (by simp [hb])]
  show (if Pl.out (ps.getD fr.toNat 0) 0 (n.stops - 1) || decide (g ∉ c.gauges) then (3 : Int) else 0) = 0
  rw [ho]
  simp [h3]
theorem way_ren {c : Pl.Cch} {fr g ds : Int} (hp : Mixed n.stops.toNat ps) (hq : Mixed n.tracks.length qs) (hR : RenTo n (fun s => ps.getD s.toNat 0) qs n.tracks.length ys) (hck : Pl.check n = 0) (hc : Pl.check ⟨n.stops, ys, shopsTo n.shops ps n.stops.toNat⟩ = 0) (h : Pl.asked n c fr g ds = 0) (f0 : 0 ≤ fr) (f1 : fr ≤ n.stops - 1) (d0 : 0 ≤ ds) (d1 : ds ≤ n.stops - 1) :
    (Pl.way n c fr g ds = none ∧ Pl.way ⟨n.stops, ys, shopsTo n.shops ps n.stops.toNat⟩ c (ps.getD fr.toNat 0) g (ps.getD ds.toNat 0) = none) ∨ ∃ t u, Pl.way n c fr g ds = some t ∧ Pl.way ⟨n.stops, ys, shopsTo n.shops ps n.stops.toNat⟩ c (ps.getD fr.toNat 0) g (ps.getD ds.toNat 0) = some u ∧ t.km = u.km :=
  (renamed_of hp hq hR hck).way f0 (by omega) d0 (by omega) places places (asked_in h) places_length (asked_in (asked_ren hp hc h f0 f1 d0 d1)) places_length
    (fun i hi => by have := (trk_in hck hi).km0; omega) (fun i hi => by have := (trk_in hc hi).km0; omega)
end
end Go.Proofs.Ytpbjpochjagicaa
