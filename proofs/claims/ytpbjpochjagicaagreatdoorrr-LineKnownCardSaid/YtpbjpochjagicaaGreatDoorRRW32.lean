/- Walks: the walk over all ways, whole; the least trip. Walks: Way. -/
import Derived.Test.YtpbjpochjagicaaGreatDoorRRW31
import Derived.Test.YtpbjpochjagicaaGreatDoorRRW20
import Derived.Deep.QuietTactic
import Derived.BigQuiet
namespace Go.Proofs.YtpbjpochjagicaaGreatDoorRR
open Go.RowKit

theorem walk_any {w0 : World} {bg bf bm bB bn bx bw X N B0 : Nat} (c : Pl.Cch) (c_gA c_bA c_hA : Option Addr) (c_gc c_bc c_hc : Nat) (n : Pl.Nt) (n_tA n_sA : Option Addr) (n_tc n_sc : Nat) {ds : Int} (hF : WayFix w0 bg bf bm bB bn bx bw X N B0 c c_gA c_bA c_hA c_gc c_bc c_hc n n_tA n_sA n_tc n_sc ds) {U : List Pl.Place} (hI : WayIn n c U) : ∀ f, WalkSaid w0 bg bf bm bB bn bx bw n c ds U f
  | 0 => fun p t tA tc w ts es ck r h ht hcap hT hmax => by
    have h1 := hT.bound; have h2 := hT.fuel
    omega
  | f + 1 => fun p t tA tc w ts es ck r h ht hcap hT hmax => by
    by_cases hp : p.1 = ds
    · obtain ⟨ps, pg⟩ := p
      simp only at hp
      subst hp
      have hb := hT.bound; have hu := hI.lenU; have hw := hT.way
      have he := dfs_here (n := n) (r := Pl.run n c []) (ds := ps) (f := f) (met := es.map Prod.fst) (p := (ps, pg)) (t := t) rfl
      rw [he] at hmax ⊢
      exact walk_found c c_gA c_bA c_hA c_gc c_bc c_hc n n_tA n_sA n_tc n_sc hF pg t tA tc w ts es ck r h ht (by omega) (by simpa using hmax)
    · rw [dfs_to hp] at hmax ⊢
      exact walk_on c c_gA c_bA c_hA c_gc c_bc c_hc n n_tA n_sA n_tc n_sc hF hI f (walk_any c c_gA c_bA c_hA c_gc c_bc c_hc n n_tA n_sA n_tc n_sc hF hI f) p t tA tc w ts es ck r h ht hcap hT hmax hp

/-- Trips that lie in a row. -/
def TripsAt (w : World) (A : Option Addr) (ts : List Pl.Trip) : Prop :=
  ∀ (k : Nat) (t : Pl.Trip), ts[k]? = some t → ∃ g tA tc, A = some ⟨g, 0, none⟩ ∧ g < w.heap.size ∧ w.cell? ⟨g, k * 3, none⟩ = some (.slice tA t.way.length tc) ∧ w.cell? ⟨g, k * 3 + 1, none⟩ = some (.int .i64 t.km) ∧ w.cell? ⟨g, k * 3 + 2, none⟩ = some (.int .i64 t.changes) ∧
    Ints w w.heap.size tA t.way ∧ t.way.length ≤ 1000
theorem TripsAt.below {w w' : World} {A : Option Addr} {ts : List Pl.Trip} (h : TripsAt w A ts) (hb : Below w.heap.size w w') : TripsAt w' A ts := fun k t ht => by
  obtain ⟨g, tA, tc, h1, h2, h3, h4, h5, h6, h7⟩ := h k t ht
  have hc : ∀ i, w'.cell? ⟨g, i, none⟩ = w.cell? ⟨g, i, none⟩ := fun i => hb.cell (p := ⟨g, i, none⟩) h2
  exact ⟨g, tA, tc, h1, Nat.lt_of_lt_of_le h2 hb.size, (hc _).trans h3, (hc _).trans h4, (hc _).trans h5, (h6.below hb).more hb.size, h7⟩

def leastVal (b : Option Pl.Trip) (l : List Pl.Trip) : Option Pl.Trip := Pl.leastFrom b l
theorem least_step (b t : Pl.Trip) (l : List Pl.Trip) : Pl.leastFrom (some b) (t :: l) = Pl.leastFrom (some (if Pl.better t b then t else b)) l := rfl

def LeastPost (r : Option Pl.Trip) (w : World) (e : Ending) (w' : World) : Prop :=
  match r with
  | some b => ∃ tA tc, e = .returned (.tuple #[.agg #[.slice tA b.way.length tc, .int .i64 b.km, .int .i64 b.changes], .bool true]) ∧ Ints w' w'.heap.size tA b.way ∧ Below w.heap.size w w'
  | none => e = .returned (.tuple #[.agg #[.slice none 0 0, .int .i64 0, .int .i64 0], .bool false]) ∧ Below w.heap.size w w'
theorem better_enter (x y : Value) (ws : World) : Sem.run Tryz.prog (callFunc 35 #[x, y]) ws = .ok (.enter 35 #[x, y]) ws := by kernel_rfl

theorem mid_two (w : World) (A B : Obj) : ((w.alloc A).alloc B).heap[w.heap.size]? = some A ∧ ((w.alloc A).alloc B).heap[w.heap.size + 1]? = some B := by
  refine ⟨blk_alloc (heap_alloc_new w A) B, ?_⟩
  have := heap_alloc_new (w.alloc A) B
  rwa [World.size_alloc] at this

/-- Where the loop of least stands: the result's box, the best trip's. -/
def BestIn (w wl : World) (ts : List Pl.Trip) (R : Option Pl.Trip) (k : Nat) : Prop :=
  Below w.heap.size w wl ∧ wl.heap[w.heap.size]? = some (.cells #[.slice none 0 0, .int .i64 0, .int .i64 0] 72 (0, 0)) ∧
  ((k = 0 ∧ wl.heap[w.heap.size + 1]? = some (.cells #[.slice none 0 0, .int .i64 0, .int .i64 0] 72 (0, 0)) ∧ Pl.leastFrom none (ts.drop 0) = R) ∨
   (0 < k ∧ ∃ b tA tc, wl.heap[w.heap.size + 1]? = some (.cells #[.slice tA b.way.length tc, .int .i64 b.km, .int .i64 b.changes] 72 (0, 0)) ∧ Ints w w.heap.size tA b.way ∧ b.way.length ≤ 1000 ∧ Pl.leastFrom (some b) (ts.drop k) = R))

theorem best_set {w W : World} {ts : List Pl.Trip} {R : Option Pl.Trip} {k : Nat} {t : Pl.Trip} {tA : Option Addr} {tc : Nat} {x y z : Value} (hb : Below w.heap.size w W) (hres : W.heap[w.heap.size]? = some (.cells #[.slice none 0 0, .int .i64 0, .int .i64 0] 72 (0, 0)))
    (hbest : W.heap[w.heap.size + 1]? = some (.cells #[x, y, z] 72 (0, 0))) (hti : Ints w w.heap.size tA t.way) (htl : t.way.length ≤ 1000) (hR : Pl.leastFrom (some t) (ts.drop (k + 1)) = R) :
    BestIn w (((W.setCell ⟨w.heap.size + 1, 0, none⟩ (.slice tA t.way.length tc)).setCell ⟨w.heap.size + 1, 1, none⟩ (.int .i64 t.km)).setCell ⟨w.heap.size + 1, 2, none⟩ (.int .i64 t.changes)) ts R (k + 1) := by
  have h1 := blk_set (i := 0) hbest (.slice tA t.way.length tc)
  have h2 := blk_set (i := 1) h1 (.int .i64 t.km)
  have h3 := blk_set (i := 2) h2 (.int .i64 t.changes)
  have hf : ∀ (V : World) (i : Nat) (u : Value), (V.setCell ⟨w.heap.size + 1, i, none⟩ u).heap[w.heap.size]? = V.heap[w.heap.size]? := fun V i u => Below.heap_setCell _ _ _ _ (by simp)
  exact ⟨((hb.setCell (p := ⟨w.heap.size + 1, 0, none⟩) (by simp) _).setCell (p := ⟨w.heap.size + 1, 1, none⟩) (by simp) _).setCell (p := ⟨w.heap.size + 1, 2, none⟩) (by simp) _,
    ((hf _ _ _).trans ((hf _ _ _).trans (hf _ _ _))).trans hres, .inr ⟨by omega, t, tA, tc, h3, hti, htl, hR⟩⟩

theorem BestIn.alloc {w wl : World} {ts : List Pl.Trip} {R : Option Pl.Trip} {k : Nat} (h : BestIn w wl ts R k) (o : Obj) : BestIn w (wl.alloc o) ts R k := by
  obtain ⟨h1, h2, h3⟩ := h
  refine ⟨h1.alloc h1.size _, blk_alloc h2 _, ?_⟩
  rcases h3 with ⟨a1, a2, a3⟩ | ⟨a1, b, bA, bc, a2, a3⟩
  · exact .inl ⟨a1, blk_alloc a2 _, a3⟩
  · exact .inr ⟨a1, b, bA, bc, blk_alloc a2 _, a3⟩

set_option maxRecDepth 100000 in
set_option maxHeartbeats 4000000 in
theorem least_any (A : Option Addr) (c : Nat) (ts : List Pl.Trip) (w : World) (ht : TripsAt w A ts) (hl : ts.length ≤ tripMax) :
    Calls Tryz.prog 34 #[.slice A ts.length c, .func (.func 35) #[] #[]] w (LeastPost (Pl.leastFrom none ts) w) := by
  have hen := better_enter
  unfold tripMax at hl
  have hl2 : (ts.length : Int) ≤ 3000000000000 := by omega
  clear hl
  have HT := Lib.hid ht; clear ht
  generalize hR : Pl.leastFrom none ts = R
  have HR := Lib.hid hR
  clear hR
  go_enter Tryz.func34, Tryz.ntmps34
  go_wp2_with fail
  have hz := mid_two w (.cells #[.slice none 0 0, .int .i64 0, .int .i64 0] 72) (.cells #[.slice none 0 0, .int .i64 0, .int .i64 0] 72)
  have hb0 : Below w.heap.size w ((w.alloc (.cells #[.slice none 0 0, .int .i64 0, .int .i64 0] 72)).alloc (.cells #[.slice none 0 0, .int .i64 0, .int .i64 0] 72)) := ((Below.refl _ _).alloc (Nat.le_refl _) _).alloc (by simp) _
  have HZ := Lib.hid hz; have HB0 := Lib.hid hb0
  clear hz hb0
  go_loopw [7, 8, 11] (fun u7 u8 i wl => ∃ k : Nat, k ≤ ts.length ∧ i = .int .i64 k ∧ Hid (BestIn w wl ts R k) ∧ w.heap.size + 1 + 1 ≤ wl.heap.size) (fun _ _ i _ => ts.length - (intOf i).toNat)
  case atStart => exact ⟨0, Nat.zero_le _, rfl, ⟨HB0.out, HZ.out.1, .inl ⟨rfl, HZ.out.2, by rw [← HR.out]; rfl⟩⟩, by simp⟩
  case round =>
    obtain ⟨k, hk, rfl, hB, hs⟩ := hrel
    clear HZ HB0
    obtain ⟨hbel, hres, hst⟩ := hB.out
    by_cases hlt : k < ts.length
    · have hki : (k : Int) < (ts.length : Int) := by omega
      obtain ⟨ga, tA, tc, rfl, hga, c0, c1, c2, hti, htl⟩ := HT.out k ts[k] (List.getElem?_eq_getElem hlt)
      have e0 := (hbel.cell (p := ⟨ga, k * 3, none⟩) hga).trans c0
      have e1 := (hbel.cell (p := ⟨ga, k * 3 + 1, none⟩) hga).trans c1
      have e2 := (hbel.cell (p := ⟨ga, k * 3 + 2, none⟩) hga).trans c2
      have hdrop : ts.drop k = ts[k] :: ts.drop (k + 1) := List.drop_eq_getElem_cons hlt
      have hgl : ga < wr.heap.size := by have := hbel.size; omega
      generalize ts[k] = t at c0 c1 c2 e0 e1 e2 hti htl hdrop
      have hbA : Below wr.heap.size wr (wr.alloc (.cells #[.slice tA t.way.length tc, .int .i64 t.km, .int .i64 t.changes] 72)) := (Below.refl _ _).alloc (Nat.le_refl _) _
      have hbW := hbel.trans (hbA.mono hbel.size)
      have hresA := blk_alloc hres (.cells #[.slice tA t.way.length tc, .int .i64 t.km, .int .i64 t.changes] 72)
      have hwr : w.heap.size + 1 < wr.heap.size := by omega
      rcases hst with ⟨hk0, hz, hR0⟩ | ⟨hpos, b, bA, bc, hbb, hbi, hbl, hRb⟩
      · have hq : ((k : Int) == 0) = true := by rw [beq_iff_eq]; omega
        have hzA := blk_alloc hz (.cells #[.slice tA t.way.length tc, .int .i64 t.km, .int .i64 t.changes] 72)
        have hRt : Hid (Pl.leastFrom (some t) (ts.drop (k + 1)) = R) := by
          show _ = _
          rw [← hR0, show (0 : Nat) = k from hk0.symm, hdrop]; rfl
        have p0 : wr.cell? ⟨w.heap.size + 1, 0, none⟩ = some (.slice none 0 0) := blk_cell hz 0
        have p1 : wr.cell? ⟨w.heap.size + 1, 1, none⟩ = some (.int .i64 0) := blk_cell hz 1
        have p2 : wr.cell? ⟨w.heap.size + 1, 2, none⟩ = some (.int .i64 0) := blk_cell hz 2
        have f0 : wr.frozen? ⟨w.heap.size + 1, 0, none⟩ = false := blk_frozen hz 0
        have f1 : wr.frozen? ⟨w.heap.size + 1, 1, none⟩ = false := blk_frozen hz 1
        have f2 : wr.frozen? ⟨w.heap.size + 1, 2, none⟩ = false := blk_frozen hz 2
        have hN := Lib.hid ((best_set (tc := tc) hbel hres hz hti htl hRt.out).alloc (.cells #[.slice tA t.way.length tc, .int .i64 t.km, .int .i64 t.changes] 72))
        clear hk0 hR0 hdrop hbel hres hB HR HT hbA hbW hresA hzA hz hRt
        go_wp2_with fail
        go_roundw
        case rel => exact ⟨k + 1, by omega, by go_num, hN, by rw [World.size_alloc, size_setCell, size_setCell, size_setCell]; omega⟩
        case measure => simp [intOf]; omega
      · have hq : ((k : Int) == 0) = false := by rw [beq_eq_false_iff_ne]; omega
        have p0 : wr.cell? ⟨w.heap.size + 1, 0, none⟩ = some (.slice bA b.way.length bc) := blk_cell hbb 0
        have p1 : wr.cell? ⟨w.heap.size + 1, 1, none⟩ = some (.int .i64 b.km) := blk_cell hbb 1
        have p2 : wr.cell? ⟨w.heap.size + 1, 2, none⟩ = some (.int .i64 b.changes) := blk_cell hbb 2
        have hcall := better_any t b tA bA tc bc (wr.alloc (.cells #[.slice tA t.way.length tc, .int .i64 t.km, .int .i64 t.changes] 72)) ((hti.below hbW).more (by simp; omega)) ((hbi.below hbW).more (by simp; omega)) htl hbl
        have hbbA := blk_alloc hbb (.cells #[.slice tA t.way.length tc, .int .i64 t.km, .int .i64 t.changes] 72)
        have hnx : ∀ w1, Below (wr.alloc (.cells #[.slice tA t.way.length tc, .int .i64 t.km, .int .i64 t.changes] 72)).heap.size (wr.alloc (.cells #[.slice tA t.way.length tc, .int .i64 t.km, .int .i64 t.changes] 72)) w1 →
            w1.cell? ⟨wr.heap.size, 0, none⟩ = some (.slice tA t.way.length tc) ∧ w1.cell? ⟨wr.heap.size, 1, none⟩ = some (.int .i64 t.km) ∧ w1.cell? ⟨wr.heap.size, 2, none⟩ = some (.int .i64 t.changes) ∧
            w1.frozen? ⟨w.heap.size + 1, 0, none⟩ = false ∧ w1.frozen? ⟨w.heap.size + 1, 1, none⟩ = false ∧ w1.frozen? ⟨w.heap.size + 1, 2, none⟩ = false ∧
            w1.cell? ⟨w.heap.size + 1, 0, none⟩ = some (.slice bA b.way.length bc) ∧ w1.cell? ⟨w.heap.size + 1, 1, none⟩ = some (.int .i64 b.km) ∧ w1.cell? ⟨w.heap.size + 1, 2, none⟩ = some (.int .i64 b.changes) ∧
            Hid (Below w.heap.size w w1 ∧ w1.heap[w.heap.size]? = some (.cells #[.slice none 0 0, .int .i64 0, .int .i64 0] 72 (0, 0)) ∧ w1.heap[w.heap.size + 1]? = some (.cells #[.slice bA b.way.length bc, .int .i64 b.km, .int .i64 b.changes] 72 (0, 0))) ∧ w.heap.size + 1 + 1 ≤ w1.heap.size := by
          intro w1 hb1
          have h1 := blk_below (heap_alloc_new wr (.cells #[.slice tA t.way.length tc, .int .i64 t.km, .int .i64 t.changes] 72)) hb1 (by simp)
          have h2 := blk_below hbbA hb1 (by simp; omega)
          have h3 := blk_below hresA hb1 (by simp; omega)
          have hs1 := hb1.size
          simp only [World.size_alloc] at hs1
          exact ⟨blk_cell h1 0, blk_cell h1 1, blk_cell h1 2, blk_frozen h2 0, blk_frozen h2 1, blk_frozen h2 2, blk_cell h2 0, blk_cell h2 1, blk_cell h2 2, ⟨hbW.trans (hb1.mono hbW.size), h3, h2⟩, by omega⟩
        have HNx := Lib.hid hnx; have HCall := Lib.hid hcall
        have hRs : Hid (Pl.leastFrom (some (if Pl.better t b then t else b)) (ts.drop (k + 1)) = R) := by
          show _ = _
          rw [← hRb, hdrop]; rfl
        clear hnx hcall hbb hbbA hRb hdrop hbel hres hB HR HT hbA hbW hresA
        cases hbt : Pl.better t b
        · rw [hbt] at HCall hRs
          have hRs2 : Hid (Pl.leastFrom (some b) (ts.drop (k + 1)) = R) := hRs.out
          clear hbt hRs
          go_wp2_with (go_at_call 35; refine HCall.out.mono ?_; rintro e w1 ⟨rfl, hb1⟩; obtain ⟨r0, r1, r2, g0, g1, g2, r3, r4, r5, hI, hs1⟩ := HNx.out w1 hb1; clear hb1)
          go_roundw
          case rel => exact ⟨k + 1, by omega, by go_num, ⟨hI.out.1, hI.out.2.1, .inr ⟨by omega, b, bA, bc, hI.out.2.2, hbi, hbl, hRs2.out⟩⟩, hs1⟩
          case measure => simp [intOf]; omega
        · rw [hbt] at HCall hRs
          have hRs2 : Hid (Pl.leastFrom (some t) (ts.drop (k + 1)) = R) := hRs.out
          clear hbt hRs
          go_wp2_with (go_at_call 35; refine HCall.out.mono ?_; rintro e w1 ⟨rfl, hb1⟩; obtain ⟨r0, r1, r2, g0, g1, g2, r3, r4, r5, hI, hs1⟩ := HNx.out w1 hb1; clear hb1)
          have hN := Lib.hid (best_set (tc := tc) hI.out.1 hI.out.2.1 hI.out.2.2 hti htl hRs2.out)
          go_roundw
          case rel => exact ⟨k + 1, by omega, by go_num, hN, by rw [size_setCell, size_setCell, size_setCell]; exact hs1⟩
          case measure => simp [intOf]; omega
    · obtain rfl : k = ts.length := by omega
      have f0 : wr.frozen? ⟨w.heap.size, 0, none⟩ = false := blk_frozen hres 0
      have f1 : wr.frozen? ⟨w.heap.size, 1, none⟩ = false := blk_frozen hres 1
      have f2 : wr.frozen? ⟨w.heap.size, 2, none⟩ = false := blk_frozen hres 2
      have q0 : wr.cell? ⟨w.heap.size, 0, none⟩ = some (.slice none 0 0) := blk_cell hres 0
      have q1 : wr.cell? ⟨w.heap.size, 1, none⟩ = some (.int .i64 0) := blk_cell hres 1
      have q2 : wr.cell? ⟨w.heap.size, 2, none⟩ = some (.int .i64 0) := blk_cell hres 2
      rcases hst with ⟨hk0, hz, hR0⟩ | ⟨hpos, b, bA, bc, hbb, hbi, hbl, hRb⟩
      · have hnil : ts = [] := List.eq_nil_of_length_eq_zero hk0
        have hRn : Hid (R = none) := by show _ = _; rw [← hR0, hnil]; rfl
        have p0 : wr.cell? ⟨w.heap.size + 1, 0, none⟩ = some (.slice none 0 0) := blk_cell hz 0
        have p1 : wr.cell? ⟨w.heap.size + 1, 1, none⟩ = some (.int .i64 0) := blk_cell hz 1
        have p2 : wr.cell? ⟨w.heap.size + 1, 2, none⟩ = some (.int .i64 0) := blk_cell hz 2
        have hlen : decide ((0 : Int) < (ts.length : Int)) = false := by simp [hk0]
        have hF : Hid (((((wr).setCell ⟨w.heap.size, 0, none⟩ (.slice none 0 0)).setCell ⟨w.heap.size, 1, none⟩ (.int .i64 0)).setCell ⟨w.heap.size, 2, none⟩ (.int .i64 0)).heap[w.heap.size]? = some (.cells #[.slice none 0 0, .int .i64 0, .int .i64 0] 72 (0, 0))) := blk_set (i := 2) (blk_set (i := 1) (blk_set (i := 0) hres _) _) _
        have hP : Hid (LeastPost R w (.returned (.tuple #[.agg #[.slice none 0 0, .int .i64 0, .int .i64 0], .bool false])) ((((wr).setCell ⟨w.heap.size, 0, none⟩ (.slice none 0 0)).setCell ⟨w.heap.size, 1, none⟩ (.int .i64 0)).setCell ⟨w.heap.size, 2, none⟩ (.int .i64 0))) := by
          show LeastPost _ _ _ _
          rw [hRn.out]
          exact ⟨rfl, ((hbel.setCell (p := ⟨w.heap.size, 0, none⟩) (Nat.le_refl _) _).setCell (p := ⟨w.heap.size, 1, none⟩) (Nat.le_refl _) _).setCell (p := ⟨w.heap.size, 2, none⟩) (Nat.le_refl _) _⟩
        have Hnil := Lib.hid hnil
        clear hnil hk0 hR0 hbel hres hB HR HT hz hlt
        go_wp2_with fail
        have c0 := blk_cell hF.out 0; have c1 := blk_cell hF.out 1; have c2 := blk_cell hF.out 2
        refine bodyPost_ret (v := .tuple #[.agg #[.slice none 0 0, .int .i64 0, .int .i64 0], .bool false]) (by simp [results, Tryz.results34, go_sem, c0, c1, c2, Hnil.out]) rfl hP.out
      · have hnil : ts.drop ts.length = [] := List.drop_length
        have hRn : Hid (R = some b) := by show _ = _; rw [← hRb, hnil]; rfl
        have p0 : wr.cell? ⟨w.heap.size + 1, 0, none⟩ = some (.slice bA b.way.length bc) := blk_cell hbb 0
        have p1 : wr.cell? ⟨w.heap.size + 1, 1, none⟩ = some (.int .i64 b.km) := blk_cell hbb 1
        have p2 : wr.cell? ⟨w.heap.size + 1, 2, none⟩ = some (.int .i64 b.changes) := blk_cell hbb 2
        have hlen : decide ((0 : Int) < (ts.length : Int)) = true := by simp; omega
        have hF : Hid (((((wr).setCell ⟨w.heap.size, 0, none⟩ (.slice bA b.way.length bc)).setCell ⟨w.heap.size, 1, none⟩ (.int .i64 b.km)).setCell ⟨w.heap.size, 2, none⟩ (.int .i64 b.changes)).heap[w.heap.size]? = some (.cells #[.slice bA b.way.length bc, .int .i64 b.km, .int .i64 b.changes] 72 (0, 0))) := blk_set (i := 2) (blk_set (i := 1) (blk_set (i := 0) hres _) _) _
        have hP : Hid (LeastPost R w (.returned (.tuple #[.agg #[.slice bA b.way.length bc, .int .i64 b.km, .int .i64 b.changes], .bool true])) ((((wr).setCell ⟨w.heap.size, 0, none⟩ (.slice bA b.way.length bc)).setCell ⟨w.heap.size, 1, none⟩ (.int .i64 b.km)).setCell ⟨w.heap.size, 2, none⟩ (.int .i64 b.changes))) := by
          show LeastPost _ _ _ _
          rw [hRn.out]
          have hb3 : Below w.heap.size w ((((wr).setCell ⟨w.heap.size, 0, none⟩ (.slice bA b.way.length bc)).setCell ⟨w.heap.size, 1, none⟩ (.int .i64 b.km)).setCell ⟨w.heap.size, 2, none⟩ (.int .i64 b.changes)) := ((hbel.setCell (p := ⟨w.heap.size, 0, none⟩) (Nat.le_refl _) _).setCell (p := ⟨w.heap.size, 1, none⟩) (Nat.le_refl _) _).setCell (p := ⟨w.heap.size, 2, none⟩) (Nat.le_refl _) _
          exact ⟨bA, bc, rfl, (hbi.below hb3).more hb3.size, hb3⟩
        clear hnil hRb hbel hres hB HR HT hbb hlt hbi
        go_wp2_with fail
        have c0 := blk_cell hF.out 0; have c1 := blk_cell hF.out 1; have c2 := blk_cell hF.out 2
        refine bodyPost_ret (v := .tuple #[.agg #[.slice bA b.way.length bc, .int .i64 b.km, .int .i64 b.changes], .bool true]) (by simp [results, Tryz.results34, go_sem, c0, c1, c2]) rfl hP.out
end Go.Proofs.YtpbjpochjagicaaGreatDoorRR

namespace Go.Proofs.YtpbjpochjagicaaGreatDoorRR
open Go.RowKit

theorem places_gauge : ∀ x ∈ places, 0 ≤ x.2 ∧ x.2 ≤ 3 := by decide
theorem way_in {n : Pl.Nt} {c c' : Pl.Cch} {fr g ds : Int} (h : Pl.asked n c fr g ds = 0) : WayIn n c' places := by
  obtain ⟨h1, h2, h3⟩ := question_b (asked_q h).1
  obtain ⟨hc, hf⟩ := both_check h1
  obtain ⟨k1, k2⟩ := check_tracks hc
  have hs := check_stops hc
  refine ⟨places_length, k1, fun x hx i hi hr => ?_, fun t ht => ⟨(k2 t ht).km0, (k2 t ht).km1⟩⟩
  rw [run_at hi] at hr ⊢
  have := runT_in (k2 _ (List.getElem_mem hi)) (places_gauge x hx) hr
  exact mem_places this.1 (by omega) this.2.2.1 this.2.2.2
theorem start_in {n : Pl.Nt} {c : Pl.Cch} {fr g ds : Int} (h : Pl.asked n c fr g ds = 0) : (fr, g) ∈ places := by
  obtain ⟨h1, h2, h3⟩ := question_b (asked_q h).1
  obtain ⟨hc, hf⟩ := both_check h1
  have hg := (fits_lists hf).1 g h3
  have ho := out_false h2
  have hs := check_stops hc
  exact mem_places ho.1 (by simp; omega) (by simp; omega) (by simp; omega)

/-- The trips found lie in a row. -/
theorem WalkAt.trips {w0 : World} {bf bB : Nat} {w : World} {ts : List Pl.Trip} {es : List (Pl.Place × Nat)} {ck : Nat} {r : Option Nat} (h : WalkAt w0 bf bB w ts es ck r) : ∃ A c, w.cell? ⟨bf, 0, none⟩ = some (.slice A ts.length c) ∧ TripsAt w A ts := by
  obtain ⟨A, c, cs, f1, f2, f3, f4⟩ := h.fnd
  refine ⟨A, c, blk_cell f1 0, fun k t ht => ?_⟩
  have hk : k < ts.length := (List.getElem?_eq_some_iff.1 ht).1
  obtain ⟨tA, tc, e0, e1, e2, e3, e4⟩ := f3.at_ ht
  rcases f2.2 with ⟨_, h2⟩ | ⟨g, cap, cur, hv, _, hh, _, _, hsz, htk⟩
  · omega
  · injection hv with hv
    subst hv
    have hcell : ∀ i u, i < ts.length * 3 → cs[i]? = some u → w.cell? ⟨g, i, none⟩ = some u := by
      intro i u hi hu
      rw [blk_cell hh i, ← hu, ← htk, List.getElem?_take, if_pos hi]
      simp
    exact ⟨g, tA, tc, rfl, lt_of_block hh, hcell _ _ (by omega) e0, hcell _ _ (by omega) e1, hcell _ _ (by omega) e2, e3.ints, e4⟩

/-- What Way hands back. -/
def WayPost (q : Int) (r : Option Pl.Trip) (w : World) (e : Ending) (w' : World) : Prop :=
  ∃ A k c km v, e = .returned (.tuple #[.slice A k c, .int .i64 km, .int .i64 v]) ∧ Below w.heap.size w w' ∧ (q ≠ 0 → v = q ∧ k = 0 ∧ km = 0) ∧ (q = 0 → r = none → v = 11 ∧ k = 0 ∧ km = 0) ∧
    (∀ t, q = 0 → r = some t → v = 0 ∧ k = t.way.length ∧ km = t.km ∧ Ints w' w'.heap.size A t.way)
theorem wayPost_asked {q : Int} {r : Option Pl.Trip} {w w' : World} (hq : q ≠ 0) (hb : Below w.heap.size w w') : WayPost q r w (.returned (.tuple #[.slice none 0 0, .int .i64 0, .int .i64 q])) w' :=
  ⟨none, 0, 0, 0, q, rfl, hb, fun _ => ⟨rfl, rfl, rfl⟩, fun h => absurd h hq, fun _ h => absurd h hq⟩
theorem wayPost_none {w w' : World} (hb : Below w.heap.size w w') : WayPost 0 none w (.returned (.tuple #[.slice none 0 0, .int .i64 0, .int .i64 11])) w' :=
  ⟨none, 0, 0, 0, 11, rfl, hb, fun h => absurd rfl h, fun _ _ => ⟨rfl, rfl, rfl⟩, (fun _ _ h => by cases h)⟩
theorem wayPost_some {A : Option Addr} {c : Nat} {t : Pl.Trip} {w w' : World} (hI : Ints w' w'.heap.size A t.way) (hb : Below w.heap.size w w') : WayPost 0 (some t) w (.returned (.tuple #[.slice A t.way.length c, .int .i64 t.km, .int .i64 0])) w' :=
  ⟨A, t.way.length, c, t.km, 0, rfl, hb, fun h => absurd rfl h, (fun _ h => by cases h), (fun t' _ h => by cases h; exact ⟨rfl, rfl, rfl, hI⟩)⟩

theorem new_six (w1 : World) (o1 o2 o3 o4 o5 o6 : Obj) : ∀ W, W = ((((((w1.alloc o1).alloc o2).alloc o3).alloc o4).alloc o5).alloc o6) →
    W.heap[w1.heap.size]? = some o1 ∧ W.heap[w1.heap.size + 1]? = some o2 ∧ W.heap[w1.heap.size + 1 + 1]? = some o3 ∧ W.heap[w1.heap.size + 1 + 1 + 1]? = some o4 ∧ W.heap[w1.heap.size + 1 + 1 + 1 + 1]? = some o5 ∧ W.heap[w1.heap.size + 1 + 1 + 1 + 1 + 1]? = some o6 ∧
    W.heap.size = w1.heap.size + 6 ∧ Below w1.heap.size w1 W := by
  rintro W rfl
  have h1 := heap_alloc_new w1 o1
  have h2 := heap_alloc_new (w1.alloc o1) o2
  have h3 := heap_alloc_new ((w1.alloc o1).alloc o2) o3
  have h4 := heap_alloc_new (((w1.alloc o1).alloc o2).alloc o3) o4
  have h5 := heap_alloc_new ((((w1.alloc o1).alloc o2).alloc o3).alloc o4) o5
  have h6 := heap_alloc_new (((((w1.alloc o1).alloc o2).alloc o3).alloc o4).alloc o5) o6
  simp only [World.size_alloc] at h2 h3 h4 h5 h6
  refine ⟨blk_alloc (blk_alloc (blk_alloc (blk_alloc (blk_alloc h1 _) _) _) _) _, blk_alloc (blk_alloc (blk_alloc (blk_alloc h2 _) _) _) _, blk_alloc (blk_alloc (blk_alloc h3 _) _) _, blk_alloc (blk_alloc h4 _) _, blk_alloc h5 _, h6, by simp, ?_⟩
  exact ((((((Below.refl _ _).alloc (Nat.le_refl _) _).alloc (by simp <;> omega) _).alloc (by simp <;> omega) _).alloc (by simp <;> omega) _).alloc (by simp <;> omega) _).alloc (by simp <;> omega) _

/-- The world of Way when the walk begins. -/
theorem way_world {w w1 W : World} {X N : Nat} {c : Pl.Cch} {c_gA c_bA c_hA : Option Addr} {c_gc c_bc c_hc : Nat} {n : Pl.Nt} {n_tA n_sA : Option Addr} {n_tc n_sc : Nat} {fr g ds : Int} (hcar : CarAt w1 X N c c_gA c_bA c_hA c_gc c_bc c_hc n n_tA n_sA n_tc n_sc none 0 0) (hb : Below (w.heap.size + 1 + 1 + 1) (((w.alloc (.cells #[.int .i64 n.stops, .slice n_tA n.tracks.length n_tc, .slice n_sA n.shops.length n_sc] 25)).alloc (.cells #[.slice c_gA c.gauges.length c_gc, .int .i64 c.size, .int .i64 c.load, .slice c_bA c.brakes.length c_bc, .slice c_hA c.heats.length c_hc, .bool c.hooks] 28)).alloc (.cells #[.int .i64 ds] 3)) w1)
    (hn : NReads w1 w1.heap.size n n_tA n_sA n_tc n_sc) (hr : CReads w1 w1.heap.size c c_gA c_bA c_hA c_gc c_bc c_hc) (hX : X < w1.heap.size) (hN : N < w1.heap.size)
    (hW : W = ((((((w1.alloc (.cells #[.pointer (some ⟨X, 0, none⟩)] 55)).alloc (.cells #[.int .i64 fr, .int .i64 g] 64)).alloc (.cells #[.slice none 0 0] 69)).alloc (.map #[] 0)).alloc (.cells #[.map (some (w1.heap.size + 1 + 1 + 1))] 61)).alloc (.cells #[.func (.func 31) #[] #[.pointer (some ⟨w.heap.size + 1 + 1, 0, none⟩), .pointer (some ⟨w1.heap.size + 1 + 1, 0, none⟩), .pointer (some ⟨w1.heap.size + 1 + 1 + 1 + 1, 0, none⟩), .pointer (some ⟨w.heap.size, 0, none⟩), .pointer (some ⟨w1.heap.size, 0, none⟩), .pointer (some ⟨w1.heap.size + 1 + 1 + 1 + 1 + 1, 0, none⟩)]] 70))) :
    WayFix W (w.heap.size + 1 + 1) (w1.heap.size + 1 + 1) (w1.heap.size + 1 + 1 + 1 + 1) (w1.heap.size + 1 + 1 + 1) w.heap.size w1.heap.size (w1.heap.size + 1 + 1 + 1 + 1 + 1) X N w1.heap.size c c_gA c_bA c_hA c_gc c_bc c_hc n n_tA n_sA n_tc n_sc ds ∧
    WalkAt W (w1.heap.size + 1 + 1) (w1.heap.size + 1 + 1 + 1) W [] [] 0 none ∧ Below w.heap.size w W ∧ w1.heap.size + 6 = W.heap.size ∧ w.heap.size + 1 + 1 + 1 ≤ w1.heap.size ∧
    W.cell? ⟨w1.heap.size + 1, 0, none⟩ = some (.int .i64 fr) ∧ W.cell? ⟨w1.heap.size + 1, 1, none⟩ = some (.int .i64 g) := by
  obtain ⟨M1, M0, M2⟩ := mid_blk w #[.int .i64 n.stops, .slice n_tA n.tracks.length n_tc, .slice n_sA n.shops.length n_sc] #[.slice c_gA c.gauges.length c_gc, .int .i64 c.size, .int .i64 c.load, .slice c_bA c.brakes.length c_bc, .slice c_hA c.heats.length c_hc, .bool c.hooks] #[.int .i64 ds] 25 28 3
  have hs := hb.size
  simp only [World.size_alloc] at hs
  have m0 := blk_below M0 hb (by omega); have m2 := blk_below M2 hb (by omega)
  obtain ⟨a1, a2, a3, a4, a5, a6, asz, abel⟩ := new_six w1 _ _ _ _ _ _ W hW
  have hbW : Below w.heap.size w W := (((((Below.refl _ w).alloc (Nat.le_refl _) _).alloc (by simp) _).alloc (by simp; omega) _).trans (hb.mono (by omega))).trans (abel.mono (by omega))
  refine ⟨⟨blk_below m2 abel (by omega), a5, blk_below m0 abel (by omega), a1, a6, hcar.below abel hX hN, hn.below abel, hr.below abel, ?_, ⟨by omega, by omega, by omega, by omega⟩⟩,
    ⟨rfl, rfl, rfl, Nat.le_refl _, fun _ _ _ _ => rfl, ⟨none, 0, [], a3, ⟨by simp, .inl ⟨rfl, rfl⟩⟩, rfl, rfl⟩, a4, (fun _ h => by cases h)⟩, hbW, asz.symm, hs, blk_cell a2 0, blk_cell a2 1⟩
  rintro k (rfl | rfl | rfl | rfl | rfl | rfl | rfl) <;> omega

set_option maxRecDepth 100000 in
set_option maxHeartbeats 4000000 in
theorem way_any (n : Pl.Nt) (n_tA n_sA : Option Addr) (n_tc n_sc : Nat) (c : Pl.Cch) (c_gA c_bA c_hA : Option Addr) (c_gc c_bc c_hc : Nat) (fr g ds : Int) (w : World) (hn : NReads w w.heap.size n n_tA n_sA n_tc n_sc) (hr : CReads w w.heap.size c c_gA c_bA c_hA c_gc c_bc c_hc) (hmax : (Pl.found n c fr g ds).length ≤ tripMax) :
    Calls Tryz.prog 13 #[.agg #[.int .i64 n.stops, .slice n_tA n.tracks.length n_tc, .slice n_sA n.shops.length n_sc], .agg #[.slice c_gA c.gauges.length c_gc, .int .i64 c.size, .int .i64 c.load, .slice c_bA c.brakes.length c_bc, .slice c_hA c.heats.length c_hc, .bool c.hooks], .int .i64 fr, .int .i64 g, .int .i64 ds] w (WayPost (Pl.asked n c fr g ds) (Pl.way n c fr g ds) w) := by
  have hb3 : Below w.heap.size w (((w.alloc (.cells #[.int .i64 n.stops, .slice n_tA n.tracks.length n_tc, .slice n_sA n.shops.length n_sc] 25)).alloc (.cells #[.slice c_gA c.gauges.length c_gc, .int .i64 c.size, .int .i64 c.load, .slice c_bA c.brakes.length c_bc, .slice c_hA c.heats.length c_hc, .bool c.hooks] 28)).alloc (.cells #[.int .i64 ds] 3)) := (((Below.refl _ _).alloc (Nat.le_refl _) _).alloc (by simp) _).alloc (by simp; omega) _
  have hsz : (((w.alloc (.cells #[.int .i64 n.stops, .slice n_tA n.tracks.length n_tc, .slice n_sA n.shops.length n_sc] 25)).alloc (.cells #[.slice c_gA c.gauges.length c_gc, .int .i64 c.size, .int .i64 c.load, .slice c_bA c.brakes.length c_bc, .slice c_hA c.heats.length c_hc, .bool c.hooks] 28)).alloc (.cells #[.int .i64 ds] 3)).heap.size = w.heap.size + 1 + 1 + 1 := by simp
  have Hn := Lib.hid ((hn.below hb3).more (B' := w.heap.size + 1 + 1 + 1) (by omega))
  have Hr := Lib.hid ((hr.below hb3).more (B' := w.heap.size + 1 + 1 + 1) (by omega))
  have HB3 := Lib.hid hb3
  clear hb3 hn hr
  have hmm := @run_makeMap Tryz.prog
  by_cases hA : Pl.asked n c fr g ds = 0
  · have hQ := asked_yes n n_tA n_sA n_tc n_sc c c_gA c_bA c_hA c_gc c_bc c_hc fr g ds _ (by rw [hsz]; exact Hn.out) (by rw [hsz]; exact Hr.out) hA
    rw [hA]
    have HI := Lib.hid (way_in (c' := c) hA); have HS := Lib.hid (start_in hA)
    have HQ := Lib.hid hQ; have Hmax := Lib.hid hmax
    clear hQ hA hmax
    have hRw : Hid (Pl.leastFrom none (Pl.found n c fr g ds) = Pl.way n c fr g ds) := rfl
    generalize Pl.way n c fr g ds = R at hRw ⊢
    go_enter Tryz.func13, Tryz.ntmps13
    go_wp2_with fail
    refine HQ.out.mono ?_
    rintro e w1 ⟨X, N, rfl, hcar, hX, hN, hb⟩
    clear HQ
    rw [hsz] at hb hX hN
    have hs1 : w.heap.size + 1 + 1 + 1 ≤ w1.heap.size := by have := hb.size; rwa [hsz] at this
    have hn1 := (Hn.out.below hb).more hs1; have hr1 := (Hr.out.below hb).more hs1
    have hway := fun W h => way_world (W := W) (fr := fr) (g := g) hcar hb hn1 hr1 hcar.ltX hcar.ltN h
    have HWay := Lib.hid hway
    clear hway hb hcar hn1 hr1 Hn Hr HB3 hX hN
    go_wp2_with fail
    obtain ⟨W, hW⟩ : ∃ W, W = ((((((w1.alloc (.cells #[.pointer (some ⟨X, 0, none⟩)] 55)).alloc (.cells #[.int .i64 fr, .int .i64 g] 64)).alloc (.cells #[.slice none 0 0] 69)).alloc (.map #[] 0)).alloc (.cells #[.map (some (w1.heap.size + 1 + 1 + 1))] 61)).alloc (.cells #[.func (.func 31) #[] #[.pointer (some ⟨w.heap.size + 1 + 1, 0, none⟩), .pointer (some ⟨w1.heap.size + 1 + 1, 0, none⟩), .pointer (some ⟨w1.heap.size + 1 + 1 + 1 + 1, 0, none⟩), .pointer (some ⟨w.heap.size, 0, none⟩), .pointer (some ⟨w1.heap.size, 0, none⟩), .pointer (some ⟨w1.heap.size + 1 + 1 + 1 + 1 + 1, 0, none⟩)]] 70)) := ⟨_, rfl⟩
    obtain ⟨hF, hWA, hbW, hsW, hs3, z0, z1⟩ := HWay.out W hW
    rw [← hW]
    have hT : TripIn places 30 ([].map (Prod.fst : Pl.Place × Nat → Pl.Place)) (fr, g) ⟨[], 0, 0⟩ :=
      ⟨HS.out, by simp, by simp, by simp, by have := places_length; simp; omega, by simp, by simp, by simp, by simp, by simp⟩
    have hwalk := walk_any c c_gA c_bA c_hA c_gc c_bc c_hc n n_tA n_sA n_tc n_sc hF HI.out 30 (fr, g) ⟨[], 0, 0⟩ none 0 W [] [] 0 none hWA (IntsN.nil _ _ _) (by simp) hT (by simpa [Pl.found] using Hmax.out)
    have HWalk : Hid (Calls Tryz.prog 31 #[.agg #[.int .i64 fr, .int .i64 g], .agg #[.slice none 0 0, .int .i64 0, .int .i64 0], .pointer (some ⟨w.heap.size + 1 + 1, 0, none⟩), .pointer (some ⟨w1.heap.size + 1 + 1, 0, none⟩), .pointer (some ⟨w1.heap.size + 1 + 1 + 1 + 1, 0, none⟩), .pointer (some ⟨w.heap.size, 0, none⟩), .pointer (some ⟨w1.heap.size, 0, none⟩), .pointer (some ⟨w1.heap.size + 1 + 1 + 1 + 1 + 1, 0, none⟩)] W
        (WalkPost W (w1.heap.size + 1 + 1) (w1.heap.size + 1 + 1 + 1) W (Pl.found n c fr g ds) [] none)) := hwalk
    have HbW := Lib.hid hbW
    clear hwalk hT hF hWA hbW HWay hW z0 z1 HI HS
    refine HWalk.out.mono ?_
    rintro e w2 ⟨⟨v, rfl⟩, ck, r, hA2, hK2, hR2⟩
    obtain ⟨A, ca, hcf, hTr⟩ := hA2.trips
    have hbW2 : Below w.heap.size w w2 := ⟨hA2.os.trans HbW.out.os, hA2.tape.trans HbW.out.tape, hA2.output.trans HbW.out.output, Nat.le_trans HbW.out.size hA2.size, fun k hk => (hA2.old k (by omega) (by omega) (by omega)).trans (HbW.out.block k hk)⟩
    have hL := least_any A ca (Pl.found n c fr g ds) w2 hTr Hmax.out
    have HW2 := Lib.hid hbW2; have HL := Lib.hid hL
    rw [hRw.out] at HL
    clear hRw hbW2 hL hTr hA2 hK2 hR2 HWalk Hmax
    cases R with
    | none =>
      go_wp2_with (go_at_call 34; refine HL.out.mono ?_; rintro e w3 ⟨rfl, hb3⟩)
      go_ret3
      exact wayPost_none ((HW2.out.trans (hb3.mono HW2.out.size)).alloc (by have := HW2.out.size; have := hb3.size; omega) _)
    | some t =>
      go_wp2_with (go_at_call 34; refine HL.out.mono ?_; rintro e w3 ⟨tA, tc, rfl, hI3, hb3⟩; have t0 := blk_cell (heap_alloc_new w3 (.cells #[.slice tA t.way.length tc, .int .i64 t.km, .int .i64 t.changes] 72)) 0; have t1 := blk_cell (heap_alloc_new w3 (.cells #[.slice tA t.way.length tc, .int .i64 t.km, .int .i64 t.changes] 72)) 1)
      go_quiet (fail)
      go_wp2_with fail
      go_ret3
      have hbz : Below w3.heap.size w3 (w3.alloc (.cells #[.slice tA t.way.length tc, .int .i64 t.km, .int .i64 t.changes] 72)) := (Below.refl _ _).alloc (Nat.le_refl _) _
      have hs3' := HW2.out.size; have hs4 := hb3.size
      exact wayPost_some (Ints.drewN ((hI3.below hbz).more hbz.size) _) (below_drewN ((HW2.out.trans (hb3.mono HW2.out.size)).trans (hbz.mono (by omega))) _)
  · have HQ := Lib.hid (asked_no n n_tA n_sA n_tc n_sc c c_gA c_bA c_hA c_gc c_bc c_hc fr g ds _ (by rw [hsz]; exact Hn.out) (by rw [hsz]; exact Hr.out) hA)
    have hb : (Pl.asked n c fr g ds != 0) = true := by rw [bne_iff_ne]; exact hA
    have HA : Hid (Pl.asked n c fr g ds ≠ 0) := hA
    clear hA hmax
    generalize Pl.way n c fr g ds = R
    go_enter Tryz.func13, Tryz.ntmps13
    go_wp2_with fail
    refine HQ.out.mono ?_
    rintro e w1 ⟨rfl, hb1⟩
    rw [hsz] at hb1
    have HW := Lib.hid (HB3.out.trans (hb1.mono (by omega)))
    have hs := HW.out.size
    clear hb1
    go_wp2_with fail
    go_ret3
    exact wayPost_asked HA.out ((HW.out.alloc hs _).alloc (by simp; omega) _)
end Go.Proofs.YtpbjpochjagicaaGreatDoorRR
