/- Walks: what bars a car. -/
import Derived.Test.YtpbjpochjagicaaGreatDoorRRW6
import Derived.Laws.EntriesVeiled
namespace Go.Proofs.YtpbjpochjagicaaGreatDoorRR
open Go.RowKit

def ruleRow : List Value := [.int .i64 1, .func (.func 64) #[] #[], .int .i64 2, .func (.func 65) #[] #[], .int .i64 3, .func (.func 66) #[] #[], .int .i64 4, .func (.func 67) #[] #[], .int .i64 5, .func (.func 68) #[] #[], .int .i64 6, .func (.func 69) #[] #[]]

theorem rules_any (w : World) : Calls Tryz.prog 53 #[] w fun e w' => e = .returned (.slice (some ⟨w.heap.size, 0, none⟩) 6 6) ∧ w' = w.alloc (.cells ruleRow.toArray 111) := by
  go_enter Tryz.func53, Tryz.ntmps53
  go_wp2
  go_ret
  exact ⟨rfl, rfl⟩

theorem ruleRow_at {w : World} {R : Nat} (h : w.heap[R]? = some (.cells ruleRow.toArray 111 (0, 0))) {k : Nat} (hk : k < 6) :
    w.cell? ⟨R, k * 2, none⟩ = some (.int .i64 ((k : Int) + 1)) ∧ w.cell? ⟨R, k * 2 + 1, none⟩ = some (.func (.func (64 + k)) #[] #[]) := by
  have h0 := fun i => cell_of_row w R i _ 111 (0, 0) h
  refine ⟨(h0 _).trans ?_, (h0 _).trans ?_⟩ <;>
  · rcases k with _ | _ | _ | _ | _ | _ | k
    all_goals first | rfl | omega

theorem rule_any (k : Nat) (hk : k < 6) (X N : Nat) (c : Pl.Cch) (c_gA c_bA c_hA : Option Addr) (c_gc c_bc c_hc : Nat) (n : Pl.Nt) (n_tA n_sA : Option Addr) (n_tc n_sc : Nat) (rA : Option Addr) (rl rc : Nat) (t : Pl.Trk) (w : World) (h : CarAt w X N c c_gA c_bA c_hA c_gc c_bc c_hc n n_tA n_sA n_tc n_sc rA rl rc) (hr : CReads w w.heap.size c c_gA c_bA c_hA c_gc c_bc c_hc) :
    Calls Tryz.prog (64 + k) #[.pointer (some ⟨X, 0, none⟩), .agg #[.int .i64 t.a, .int .i64 t.b, .int .i64 t.km, .int .i64 t.gauge, .int .i64 t.room, .int .i64 t.brake, .int .i64 t.heat, .int .i64 t.load, .bool t.ferry]] w
      fun e w' => e = .returned (.bool (barTest c t k)) ∧ Below w.heap.size w w' := by
  have fin : ∀ j, (Calls Tryz.prog (64 + j) #[.pointer (some ⟨X, 0, none⟩), .agg #[.int .i64 t.a, .int .i64 t.b, .int .i64 t.km, .int .i64 t.gauge, .int .i64 t.room, .int .i64 t.brake, .int .i64 t.heat, .int .i64 t.load, .bool t.ferry]] w
      fun e w' => e = .returned (.bool (barTest c t j)) ∧ ∃ m, w' = (w.alloc (.cells #[.int .i64 t.a, .int .i64 t.b, .int .i64 t.km, .int .i64 t.gauge, .int .i64 t.room, .int .i64 t.brake, .int .i64 t.heat, .int .i64 t.load, .bool t.ferry] 31)).drewN m) →
      Calls Tryz.prog (64 + j) #[.pointer (some ⟨X, 0, none⟩), .agg #[.int .i64 t.a, .int .i64 t.b, .int .i64 t.km, .int .i64 t.gauge, .int .i64 t.room, .int .i64 t.brake, .int .i64 t.heat, .int .i64 t.load, .bool t.ferry]] w
      fun e w' => e = .returned (.bool (barTest c t j)) ∧ Below w.heap.size w w' := fun j hc => hc.mono fun e w' ⟨he, m, hw⟩ => by
    refine ⟨he, ?_⟩
    rw [hw]
    exact ((Below.refl _ _).alloc (Nat.le_refl _) _).trans ⟨rfl, rfl, rfl, Nat.le_refl _, fun _ _ => rfl⟩
  rcases k with _ | _ | _ | _ | _ | _ | k
  · exact fin 0 (rule0_any X N c c_gA c_bA c_hA c_gc c_bc c_hc n n_tA n_sA n_tc n_sc rA rl rc t w h hr)
  · exact fin 1 (rule1_any X N c c_gA c_bA c_hA c_gc c_bc c_hc n n_tA n_sA n_tc n_sc rA rl rc t w h hr)
  · exact fin 2 (rule2_any X N c c_gA c_bA c_hA c_gc c_bc c_hc n n_tA n_sA n_tc n_sc rA rl rc t w h hr)
  · exact fin 3 (rule3_any X N c c_gA c_bA c_hA c_gc c_bc c_hc n n_tA n_sA n_tc n_sc rA rl rc t w h hr)
  · exact fin 4 (rule4_any X N c c_gA c_bA c_hA c_gc c_bc c_hc n n_tA n_sA n_tc n_sc rA rl rc t w h hr)
  · exact fin 5 (rule5_any X N c c_gA c_bA c_hA c_gc c_bc c_hc n n_tA n_sA n_tc n_sc rA rl rc t w h hr)
  · omega

/-- What a call hands back: integers in new memory. -/
def IntsPost (xs : List Int) (w : World) (e : Ending) (w' : World) : Prop := ∃ A c, e = .returned (.slice A xs.length c) ∧ OwnInts w' w.heap.size A c xs ∧ Below w.heap.size w w'

theorem int_info : (Tryz.prog.info? 3).map (fun i => (i.zero, i.size, i.bytes)) = some (some (.int .i64 0), 1, 8) := by kernel_rfl

theorem cell_new_later {wr w1 : World} {cs : Array Value} {t : TypeId} (hb : Below (wr.alloc (.cells cs t)).drew.heap.size (wr.alloc (.cells cs t)).drew w1) (i : Nat) : w1.cell? ⟨wr.heap.size, i, none⟩ = cs[i]? :=
  (hb.cell (p := ⟨wr.heap.size, i, none⟩) (by show wr.heap.size < (wr.alloc _).heap.size; simp)).trans (cell_of_row _ _ i _ t (0, 0) (heap_alloc_new wr _))
theorem below_step {B : Nat} {a wr w1 : World} {o : Obj} (h : Below B a wr) (hb : Below (wr.alloc o).drew.heap.size (wr.alloc o).drew w1) (hB : B ≤ wr.heap.size) : Below B a w1 :=
  ((h.alloc hB o).drew).trans (hb.mono (by show B ≤ (wr.alloc o).heap.size; simp; omega))
theorem own_drew {w : World} {base : Nat} {A : Option Addr} {c : Nat} {xs : List Int} (h : OwnInts w base A c xs) : OwnInts w.drew base A c xs := h
theorem own_alloc {w : World} {base : Nat} {A : Option Addr} {c : Nat} {xs : List Int} (h : OwnInts w base A c xs) (o : Obj) : OwnInts (w.alloc o) base A c xs := World.ownsRow.alloc h o
theorem own_below {w w' : World} {base B : Nat} {A : Option Addr} {c : Nat} {xs : List Int} (h : OwnInts w base A c xs) (hb : Below B w w') (hB : w.heap.size ≤ B) : OwnInts w' base A c xs := by
  refine ⟨h.1, ?_⟩
  rcases h.2 with h2 | ⟨g, cap, cur, hv, hg, hh, r⟩
  · exact .inl h2
  · exact .inr ⟨g, cap, cur, hv, hg, (hb.block g (Nat.lt_of_lt_of_le (lt_of_block hh) hB)).trans hh, r⟩
theorem own_from {w : World} {base : Nat} {A : Option Addr} {n c : Nat} {xs : List Int} (h : OwnInts w base A c xs) : ∀ k, (Value.slice A n c).ownBlock = some k → base ≤ k := fun k hk => by
  rcases h.2 with ⟨h2, _⟩ | ⟨g, cap, cur, hv, hg, _⟩
  · injection h2 with h2; subst h2; simp [Value.ownBlock] at hk
  · injection hv with hv; subst hv; simp [Value.ownBlock] at hk; omega
theorem own_base {w : World} {base : Nat} {A : Option Addr} {c : Nat} {xs : List Int} (h : OwnInts w (base + 1) A c xs) : OwnInts w base A c xs := by
  refine ⟨h.1, ?_⟩
  rcases h.2 with h2 | ⟨g, cap, cur, hv, hg, r⟩
  · exact .inl h2
  · exact .inr ⟨g, cap, cur, hv, by omega, r⟩
theorem ints_one (w : World) (g B : Nat) {x : Int} (hc : w.cell? ⟨g, 0, none⟩ = some (.int .i64 x)) (hg : g < B) : Ints w B (some ⟨g, 0, none⟩) [x] := fun k y hk => by
  cases k with
  | zero => simp at hk; subst hk; exact ⟨g, 0, rfl, hg, hc⟩
  | succ k => simp at hk
theorem barUp_len (c : Pl.Cch) (t : Pl.Trk) : ∀ k, (barUp c t k).length ≤ k
  | 0 => by simp [barUp]
  | k + 1 => by have := barUp_len c t k; simp only [barUp]; split <;> simp <;> omega

set_option maxRecDepth 100000 in
set_option maxHeartbeats 4000000 in
theorem barred_any (X N : Nat) (c : Pl.Cch) (c_gA c_bA c_hA : Option Addr) (c_gc c_bc c_hc : Nat) (n : Pl.Nt) (n_tA n_sA : Option Addr) (n_tc n_sc : Nat) (rA : Option Addr) (rl rc : Nat) (k : Nat) (hk : k < n.tracks.length) (w : World) (h : CarAt w X N c c_gA c_bA c_hA c_gc c_bc c_hc n n_tA n_sA n_tc n_sc rA rl rc) (hr : CReads w w.heap.size c c_gA c_bA c_hA c_gc c_bc c_hc) (hn : NReads w w.heap.size n n_tA n_sA n_tc n_sc) :
    Calls Tryz.prog 25 #[.pointer (some ⟨X, 0, none⟩), .int .i64 k] w (IntsPost (Pl.barred c n.tracks[k]) w) := by
  rw [← barUp_six]
  obtain ⟨b, off, htA, hbw, hcell⟩ : ∃ b off, n_tA = some ⟨b, off, none⟩ ∧ b < w.heap.size ∧ ∀ j v, (trkCells n.tracks[k])[j]? = some v → w.cell? ⟨b, off + k * 9 + j, none⟩ = some v := by
    obtain ⟨b, off, h1, h2, h3⟩ := hn.tracks k _ (List.getElem?_eq_getElem hk)
    exact ⟨b, off, h1, h2, h3⟩
  subst htA
  have hlt := hn.lenT
  clear hn
  generalize n.tracks[k] = t at hcell ⊢
  go_enter Tryz.func25, Tryz.ntmps25
  go_wp2_with (go_at_call 53; refine (rules_any _).mono ?_; rintro e w' ⟨rfl, rfl⟩)
  go_loopw [5, 10] (fun v i wr => ∃ j A c0, j ≤ 6 ∧ i = .int .i64 (j : Nat) ∧ v = .slice A (barUp c t j).length c0 ∧ OwnInts wr (w.heap.size + 1) A c0 (barUp c t j) ∧ Below (w.heap.size + 1) (w.alloc (.cells ruleRow.toArray 111)) wr) (fun _ i _ => 6 - (intOf i).toNat)
  case atStart => exact ⟨0, none, 0, by omega, rfl, rfl, OwnInts.nil _ _, Below.refl _ _⟩
  case round =>
    obtain ⟨j, A, c0, hj, rfl, rfl, hown, hbel⟩ := hrel
    have hsz : w.heap.size < wr.heap.size := by have := hbel.size; simp at this; omega
    by_cases hlt6 : j < 6
    · have hrow : wr.heap[w.heap.size]? = some (.cells ruleRow.toArray 111 (0, 0)) := (hbel.block _ (by omega)).trans (heap_alloc_new w _)
      have hbX : Below w.heap.size w wr := ((Below.refl w.heap.size w).alloc (Nat.le_refl _) _).trans (hbel.mono (by omega))
      have hcar := h.below hbX h.ltX h.ltN
      have hXs : X < wr.heap.size := hcar.ltX
      have hNs : N < wr.heap.size := hcar.ltN
      have hbs : b < wr.heap.size := by omega
      have p6 := hcar.c6
      have p1 := hcar.n1
      have hki : (k : Int) < (n.tracks.length : Int) := by omega
      obtain ⟨t0, t1, t2, t3, t4, t5, t6, t7, t8⟩ := trk_cells (w := wr) (b := b) (o := off + k * 9) (t := t) (fun i v hv => (hbX.cell (p := ⟨b, off + k * 9 + i, none⟩) hbw).trans (hcell i v hv))
      have hr1 := hr.below hbX
      have hrs := hbX.size
      clear hcell
      obtain rfl | rfl | rfl | rfl | rfl | rfl : j = 0 ∨ j = 1 ∨ j = 2 ∨ j = 3 ∨ j = 4 ∨ j = 5 := by omega
      · have q0 : wr.cell? ⟨w.heap.size, 0, none⟩ = some (.int .i64 1) := (cell_of_row wr _ 0 _ 111 (0, 0) hrow)
        have q1 : wr.cell? ⟨w.heap.size, 1, none⟩ = some (.func (.func 64) #[] #[]) := (cell_of_row wr _ 1 _ 111 (0, 0) hrow)
        have hcar' : Hid (CarAt (wr.alloc (.cells #[.int .i64 1, .func (.func 64) #[] #[]] 111)).drew X N c _ _ _ _ _ _ n _ _ _ _ _ _ _) := ⟨(hcar.alloc (.cells #[.int .i64 1, .func (.func 64) #[] #[]] 111)).car, (hcar.alloc (.cells #[.int .i64 1, .func (.func 64) #[] #[]] 111)).net⟩
        have Hr : Hid (CReads (wr.alloc (.cells #[.int .i64 1, .func (.func 64) #[] #[]] 111)).drew (wr.alloc (.cells #[.int .i64 1, .func (.func 64) #[] #[]] 111)).drew.heap.size c _ _ _ _ _ _) := ((hr1.alloc hrs (.cells #[.int .i64 1, .func (.func 64) #[] #[]] 111)).more (B' := (wr.alloc (.cells #[.int .i64 1, .func (.func 64) #[] #[]] 111)).heap.size) (by simp; omega)).keep (w' := (wr.alloc (.cells #[.int .i64 1, .func (.func 64) #[] #[]] 111)).drew) (fun _ _ => rfl)
        clear hr1 hcar hrow
        cases hT : barTest c t 0
        · have hN : barUp c t 1 = barUp c t 0 := by simp only [barUp, hT]; rw [if_neg (by simp)]
          have HN := Lib.hid hN; clear hN
          go_wp2_with fail
          refine wp_region_still_tail 13 (by kernel_rfl) (by kernel_rfl) ?_
          simp only [List.take_succ_cons, List.take_zero, List.drop_succ_cons, List.drop_zero]
          change wpStill _ _ (World.drew _) (fun a' => wpList _ _ _ _ a' (World.drew _)) _ _
          repeat still_step
          refine wpStill_nil ?_
          go_wp2_with fail
          have hC : Calls Tryz.prog 64 _ _ _ := rule_any 0 (by omega) X N c _ _ _ _ _ _ n _ _ _ _ _ _ _ t _ hcar'.out Hr.out
          refine hC.mono ?_
          clear hC
          rintro e w1 ⟨rfl, hb1⟩
          rw [hT]
          have hs1 : wr.heap.size < w1.heap.size := by have := hb1.size; simp [World.drew] at this; omega
          have z0 : w1.cell? ⟨wr.heap.size, 0, none⟩ = some (.int .i64 1) := cell_new_later hb1 0
          have hbe : Below (w.heap.size + 1) (w.alloc (.cells ruleRow.toArray 111)) w1 := below_step hbel hb1 (by omega)
          have hown1 : OwnInts w1 (w.heap.size + 1) A c0 (barUp c t 0) := own_below (own_drew (own_alloc hown (.cells #[.int .i64 1, .func (.func 64) #[] #[]] 111))) hb1 (Nat.le_refl _)
          go_wp2
          go_roundw
          case rel => exact ⟨1, A, c0, by omega, rfl, (by rw [HN.out]), (by rw [HN.out]; exact hown1), hbe⟩
          case measure => simp [intOf]
        · have hN : barUp c t 1 = barUp c t 0 ++ [1] := by simp only [barUp, hT]; rw [if_pos trivial]; rfl
          have HN := Lib.hid hN; clear hN
          go_wp2_with fail
          refine wp_region_still_tail 13 (by kernel_rfl) (by kernel_rfl) ?_
          simp only [List.take_succ_cons, List.take_zero, List.drop_succ_cons, List.drop_zero]
          change wpStill _ _ (World.drew _) (fun a' => wpList _ _ _ _ a' (World.drew _)) _ _
          repeat still_step
          refine wpStill_nil ?_
          go_wp2_with fail
          have hC : Calls Tryz.prog 64 _ _ _ := rule_any 0 (by omega) X N c _ _ _ _ _ _ n _ _ _ _ _ _ _ t _ hcar'.out Hr.out
          refine hC.mono ?_
          clear hC
          rintro e w1 ⟨rfl, hb1⟩
          rw [hT]
          have hs1 : wr.heap.size < w1.heap.size := by have := hb1.size; simp [World.drew] at this; omega
          have z0 : w1.cell? ⟨wr.heap.size, 0, none⟩ = some (.int .i64 1) := cell_new_later hb1 0
          have hbe : Below (w.heap.size + 1) (w.alloc (.cells ruleRow.toArray 111)) w1 := below_step hbel hb1 (by omega)
          have hown1 : OwnInts w1 (w.heap.size + 1) A c0 (barUp c t 0) := own_below (own_drew (own_alloc hown (.cells #[.int .i64 1, .func (.func 64) #[] #[]] 111))) hb1 (Nat.le_refl _)
          have hlen : ((barUp c t 0).length + [(1 : Int)].length) * 8 ≤ 140737488355328 := by have := barUp_len c t 0; simp; omega
          go_wp2_with (at_builtin; refine wpl_app_ints rfl (.tmp 28) (.tmp 31) 23 rfl (w.heap.size + 1) Tryz.underlying23 int_info A c0 (barUp c t 0) rfl (own_alloc hown1 _) (w1.heap.size + 1) (some ⟨w1.heap.size, 0, none⟩) 1 [1] rfl (ints_one _ _ _ (by simp) (by omega)) hlen (by simp; omega) ?_; intro A2 c2 w2 hown2 hg2 hat2)
          go_roundw
          case rel => exact ⟨1, A2, c2, by omega, rfl, (by rw [HN.out]; simp), (by rw [HN.out]; exact hown2), (hbe.alloc (by omega) _).grown hg2 (by simp; omega) (own_from hown1)⟩
          case measure => simp [intOf]
      · have q0 : wr.cell? ⟨w.heap.size, 2, none⟩ = some (.int .i64 2) := (cell_of_row wr _ 2 _ 111 (0, 0) hrow)
        have q1 : wr.cell? ⟨w.heap.size, 3, none⟩ = some (.func (.func 65) #[] #[]) := (cell_of_row wr _ 3 _ 111 (0, 0) hrow)
        have hcar' : Hid (CarAt (wr.alloc (.cells #[.int .i64 2, .func (.func 65) #[] #[]] 111)).drew X N c _ _ _ _ _ _ n _ _ _ _ _ _ _) := ⟨(hcar.alloc (.cells #[.int .i64 2, .func (.func 65) #[] #[]] 111)).car, (hcar.alloc (.cells #[.int .i64 2, .func (.func 65) #[] #[]] 111)).net⟩
        have Hr : Hid (CReads (wr.alloc (.cells #[.int .i64 2, .func (.func 65) #[] #[]] 111)).drew (wr.alloc (.cells #[.int .i64 2, .func (.func 65) #[] #[]] 111)).drew.heap.size c _ _ _ _ _ _) := ((hr1.alloc hrs (.cells #[.int .i64 2, .func (.func 65) #[] #[]] 111)).more (B' := (wr.alloc (.cells #[.int .i64 2, .func (.func 65) #[] #[]] 111)).heap.size) (by simp; omega)).keep (w' := (wr.alloc (.cells #[.int .i64 2, .func (.func 65) #[] #[]] 111)).drew) (fun _ _ => rfl)
        clear hr1 hcar hrow
        cases hT : barTest c t 1
        · have hN : barUp c t 2 = barUp c t 1 := by simp only [barUp, hT]; rw [if_neg (by simp)]
          have HN := Lib.hid hN; clear hN
          go_wp2_with fail
          refine wp_region_still_tail 13 (by kernel_rfl) (by kernel_rfl) ?_
          simp only [List.take_succ_cons, List.take_zero, List.drop_succ_cons, List.drop_zero]
          change wpStill _ _ (World.drew _) (fun a' => wpList _ _ _ _ a' (World.drew _)) _ _
          repeat still_step
          refine wpStill_nil ?_
          go_wp2_with fail
          have hC : Calls Tryz.prog 65 _ _ _ := rule_any 1 (by omega) X N c _ _ _ _ _ _ n _ _ _ _ _ _ _ t _ hcar'.out Hr.out
          refine hC.mono ?_
          clear hC
          rintro e w1 ⟨rfl, hb1⟩
          rw [hT]
          have hs1 : wr.heap.size < w1.heap.size := by have := hb1.size; simp [World.drew] at this; omega
          have z0 : w1.cell? ⟨wr.heap.size, 0, none⟩ = some (.int .i64 2) := cell_new_later hb1 0
          have hbe : Below (w.heap.size + 1) (w.alloc (.cells ruleRow.toArray 111)) w1 := below_step hbel hb1 (by omega)
          have hown1 : OwnInts w1 (w.heap.size + 1) A c0 (barUp c t 1) := own_below (own_drew (own_alloc hown (.cells #[.int .i64 2, .func (.func 65) #[] #[]] 111))) hb1 (Nat.le_refl _)
          go_wp2
          go_roundw
          case rel => exact ⟨2, A, c0, by omega, rfl, (by rw [HN.out]), (by rw [HN.out]; exact hown1), hbe⟩
          case measure => simp [intOf]
        · have hN : barUp c t 2 = barUp c t 1 ++ [2] := by simp only [barUp, hT]; rw [if_pos trivial]; rfl
          have HN := Lib.hid hN; clear hN
          go_wp2_with fail
          refine wp_region_still_tail 13 (by kernel_rfl) (by kernel_rfl) ?_
          simp only [List.take_succ_cons, List.take_zero, List.drop_succ_cons, List.drop_zero]
          change wpStill _ _ (World.drew _) (fun a' => wpList _ _ _ _ a' (World.drew _)) _ _
          repeat still_step
          refine wpStill_nil ?_
          go_wp2_with fail
          have hC : Calls Tryz.prog 65 _ _ _ := rule_any 1 (by omega) X N c _ _ _ _ _ _ n _ _ _ _ _ _ _ t _ hcar'.out Hr.out
          refine hC.mono ?_
          clear hC
          rintro e w1 ⟨rfl, hb1⟩
          rw [hT]
          have hs1 : wr.heap.size < w1.heap.size := by have := hb1.size; simp [World.drew] at this; omega
          have z0 : w1.cell? ⟨wr.heap.size, 0, none⟩ = some (.int .i64 2) := cell_new_later hb1 0
          have hbe : Below (w.heap.size + 1) (w.alloc (.cells ruleRow.toArray 111)) w1 := below_step hbel hb1 (by omega)
          have hown1 : OwnInts w1 (w.heap.size + 1) A c0 (barUp c t 1) := own_below (own_drew (own_alloc hown (.cells #[.int .i64 2, .func (.func 65) #[] #[]] 111))) hb1 (Nat.le_refl _)
          have hlen : ((barUp c t 1).length + [(2 : Int)].length) * 8 ≤ 140737488355328 := by have := barUp_len c t 1; simp; omega
          go_wp2_with (at_builtin; refine wpl_app_ints rfl (.tmp 28) (.tmp 31) 23 rfl (w.heap.size + 1) Tryz.underlying23 int_info A c0 (barUp c t 1) rfl (own_alloc hown1 _) (w1.heap.size + 1) (some ⟨w1.heap.size, 0, none⟩) 1 [2] rfl (ints_one _ _ _ (by simp) (by omega)) hlen (by simp; omega) ?_; intro A2 c2 w2 hown2 hg2 hat2)
          go_roundw
          case rel => exact ⟨2, A2, c2, by omega, rfl, (by rw [HN.out]; simp), (by rw [HN.out]; exact hown2), (hbe.alloc (by omega) _).grown hg2 (by simp; omega) (own_from hown1)⟩
          case measure => simp [intOf]
      · have q0 : wr.cell? ⟨w.heap.size, 4, none⟩ = some (.int .i64 3) := (cell_of_row wr _ 4 _ 111 (0, 0) hrow)
        have q1 : wr.cell? ⟨w.heap.size, 5, none⟩ = some (.func (.func 66) #[] #[]) := (cell_of_row wr _ 5 _ 111 (0, 0) hrow)
        have hcar' : Hid (CarAt (wr.alloc (.cells #[.int .i64 3, .func (.func 66) #[] #[]] 111)).drew X N c _ _ _ _ _ _ n _ _ _ _ _ _ _) := ⟨(hcar.alloc (.cells #[.int .i64 3, .func (.func 66) #[] #[]] 111)).car, (hcar.alloc (.cells #[.int .i64 3, .func (.func 66) #[] #[]] 111)).net⟩
        have Hr : Hid (CReads (wr.alloc (.cells #[.int .i64 3, .func (.func 66) #[] #[]] 111)).drew (wr.alloc (.cells #[.int .i64 3, .func (.func 66) #[] #[]] 111)).drew.heap.size c _ _ _ _ _ _) := ((hr1.alloc hrs (.cells #[.int .i64 3, .func (.func 66) #[] #[]] 111)).more (B' := (wr.alloc (.cells #[.int .i64 3, .func (.func 66) #[] #[]] 111)).heap.size) (by simp; omega)).keep (w' := (wr.alloc (.cells #[.int .i64 3, .func (.func 66) #[] #[]] 111)).drew) (fun _ _ => rfl)
        clear hr1 hcar hrow
        cases hT : barTest c t 2
        · have hN : barUp c t 3 = barUp c t 2 := by simp only [barUp, hT]; rw [if_neg (by simp)]
          have HN := Lib.hid hN; clear hN
          go_wp2_with fail
          refine wp_region_still_tail 13 (by kernel_rfl) (by kernel_rfl) ?_
          simp only [List.take_succ_cons, List.take_zero, List.drop_succ_cons, List.drop_zero]
          change wpStill _ _ (World.drew _) (fun a' => wpList _ _ _ _ a' (World.drew _)) _ _
          repeat still_step
          refine wpStill_nil ?_
          go_wp2_with fail
          have hC : Calls Tryz.prog 66 _ _ _ := rule_any 2 (by omega) X N c _ _ _ _ _ _ n _ _ _ _ _ _ _ t _ hcar'.out Hr.out
          refine hC.mono ?_
          clear hC
          rintro e w1 ⟨rfl, hb1⟩
          rw [hT]
          have hs1 : wr.heap.size < w1.heap.size := by have := hb1.size; simp [World.drew] at this; omega
          have z0 : w1.cell? ⟨wr.heap.size, 0, none⟩ = some (.int .i64 3) := cell_new_later hb1 0
          have hbe : Below (w.heap.size + 1) (w.alloc (.cells ruleRow.toArray 111)) w1 := below_step hbel hb1 (by omega)
          have hown1 : OwnInts w1 (w.heap.size + 1) A c0 (barUp c t 2) := own_below (own_drew (own_alloc hown (.cells #[.int .i64 3, .func (.func 66) #[] #[]] 111))) hb1 (Nat.le_refl _)
          go_wp2
          go_roundw
          case rel => exact ⟨3, A, c0, by omega, rfl, (by rw [HN.out]), (by rw [HN.out]; exact hown1), hbe⟩
          case measure => simp [intOf]
        · have hN : barUp c t 3 = barUp c t 2 ++ [3] := by simp only [barUp, hT]; rw [if_pos trivial]; rfl
          have HN := Lib.hid hN; clear hN
          go_wp2_with fail
          refine wp_region_still_tail 13 (by kernel_rfl) (by kernel_rfl) ?_
          simp only [List.take_succ_cons, List.take_zero, List.drop_succ_cons, List.drop_zero]
          change wpStill _ _ (World.drew _) (fun a' => wpList _ _ _ _ a' (World.drew _)) _ _
          repeat still_step
          refine wpStill_nil ?_
          go_wp2_with fail
          have hC : Calls Tryz.prog 66 _ _ _ := rule_any 2 (by omega) X N c _ _ _ _ _ _ n _ _ _ _ _ _ _ t _ hcar'.out Hr.out
          refine hC.mono ?_
          clear hC
          rintro e w1 ⟨rfl, hb1⟩
          rw [hT]
          have hs1 : wr.heap.size < w1.heap.size := by have := hb1.size; simp [World.drew] at this; omega
          have z0 : w1.cell? ⟨wr.heap.size, 0, none⟩ = some (.int .i64 3) := cell_new_later hb1 0
          have hbe : Below (w.heap.size + 1) (w.alloc (.cells ruleRow.toArray 111)) w1 := below_step hbel hb1 (by omega)
          have hown1 : OwnInts w1 (w.heap.size + 1) A c0 (barUp c t 2) := own_below (own_drew (own_alloc hown (.cells #[.int .i64 3, .func (.func 66) #[] #[]] 111))) hb1 (Nat.le_refl _)
          have hlen : ((barUp c t 2).length + [(3 : Int)].length) * 8 ≤ 140737488355328 := by have := barUp_len c t 2; simp; omega
          go_wp2_with (at_builtin; refine wpl_app_ints rfl (.tmp 28) (.tmp 31) 23 rfl (w.heap.size + 1) Tryz.underlying23 int_info A c0 (barUp c t 2) rfl (own_alloc hown1 _) (w1.heap.size + 1) (some ⟨w1.heap.size, 0, none⟩) 1 [3] rfl (ints_one _ _ _ (by simp) (by omega)) hlen (by simp; omega) ?_; intro A2 c2 w2 hown2 hg2 hat2)
          go_roundw
          case rel => exact ⟨3, A2, c2, by omega, rfl, (by rw [HN.out]; simp), (by rw [HN.out]; exact hown2), (hbe.alloc (by omega) _).grown hg2 (by simp; omega) (own_from hown1)⟩
          case measure => simp [intOf]
      · have q0 : wr.cell? ⟨w.heap.size, 6, none⟩ = some (.int .i64 4) := (cell_of_row wr _ 6 _ 111 (0, 0) hrow)
        have q1 : wr.cell? ⟨w.heap.size, 7, none⟩ = some (.func (.func 67) #[] #[]) := (cell_of_row wr _ 7 _ 111 (0, 0) hrow)
        have hcar' : Hid (CarAt (wr.alloc (.cells #[.int .i64 4, .func (.func 67) #[] #[]] 111)).drew X N c _ _ _ _ _ _ n _ _ _ _ _ _ _) := ⟨(hcar.alloc (.cells #[.int .i64 4, .func (.func 67) #[] #[]] 111)).car, (hcar.alloc (.cells #[.int .i64 4, .func (.func 67) #[] #[]] 111)).net⟩
        have Hr : Hid (CReads (wr.alloc (.cells #[.int .i64 4, .func (.func 67) #[] #[]] 111)).drew (wr.alloc (.cells #[.int .i64 4, .func (.func 67) #[] #[]] 111)).drew.heap.size c _ _ _ _ _ _) := ((hr1.alloc hrs (.cells #[.int .i64 4, .func (.func 67) #[] #[]] 111)).more (B' := (wr.alloc (.cells #[.int .i64 4, .func (.func 67) #[] #[]] 111)).heap.size) (by simp; omega)).keep (w' := (wr.alloc (.cells #[.int .i64 4, .func (.func 67) #[] #[]] 111)).drew) (fun _ _ => rfl)
        clear hr1 hcar hrow
        cases hT : barTest c t 3
        · have hN : barUp c t 4 = barUp c t 3 := by simp only [barUp, hT]; rw [if_neg (by simp)]
          have HN := Lib.hid hN; clear hN
          go_wp2_with fail
          refine wp_region_still_tail 13 (by kernel_rfl) (by kernel_rfl) ?_
          simp only [List.take_succ_cons, List.take_zero, List.drop_succ_cons, List.drop_zero]
          change wpStill _ _ (World.drew _) (fun a' => wpList _ _ _ _ a' (World.drew _)) _ _
          repeat still_step
          refine wpStill_nil ?_
          go_wp2_with fail
          have hC : Calls Tryz.prog 67 _ _ _ := rule_any 3 (by omega) X N c _ _ _ _ _ _ n _ _ _ _ _ _ _ t _ hcar'.out Hr.out
          refine hC.mono ?_
          clear hC
          rintro e w1 ⟨rfl, hb1⟩
          rw [hT]
          have hs1 : wr.heap.size < w1.heap.size := by have := hb1.size; simp [World.drew] at this; omega
          have z0 : w1.cell? ⟨wr.heap.size, 0, none⟩ = some (.int .i64 4) := cell_new_later hb1 0
          have hbe : Below (w.heap.size + 1) (w.alloc (.cells ruleRow.toArray 111)) w1 := below_step hbel hb1 (by omega)
          have hown1 : OwnInts w1 (w.heap.size + 1) A c0 (barUp c t 3) := own_below (own_drew (own_alloc hown (.cells #[.int .i64 4, .func (.func 67) #[] #[]] 111))) hb1 (Nat.le_refl _)
          go_wp2
          go_roundw
          case rel => exact ⟨4, A, c0, by omega, rfl, (by rw [HN.out]), (by rw [HN.out]; exact hown1), hbe⟩
          case measure => simp [intOf]
        · have hN : barUp c t 4 = barUp c t 3 ++ [4] := by simp only [barUp, hT]; rw [if_pos trivial]; rfl
          have HN := Lib.hid hN; clear hN
          go_wp2_with fail
          refine wp_region_still_tail 13 (by kernel_rfl) (by kernel_rfl) ?_
          simp only [List.take_succ_cons, List.take_zero, List.drop_succ_cons, List.drop_zero]
          change wpStill _ _ (World.drew _) (fun a' => wpList _ _ _ _ a' (World.drew _)) _ _
          repeat still_step
          refine wpStill_nil ?_
          go_wp2_with fail
          have hC : Calls Tryz.prog 67 _ _ _ := rule_any 3 (by omega) X N c _ _ _ _ _ _ n _ _ _ _ _ _ _ t _ hcar'.out Hr.out
          refine hC.mono ?_
          clear hC
          rintro e w1 ⟨rfl, hb1⟩
          rw [hT]
          have hs1 : wr.heap.size < w1.heap.size := by have := hb1.size; simp [World.drew] at this; omega
          have z0 : w1.cell? ⟨wr.heap.size, 0, none⟩ = some (.int .i64 4) := cell_new_later hb1 0
          have hbe : Below (w.heap.size + 1) (w.alloc (.cells ruleRow.toArray 111)) w1 := below_step hbel hb1 (by omega)
          have hown1 : OwnInts w1 (w.heap.size + 1) A c0 (barUp c t 3) := own_below (own_drew (own_alloc hown (.cells #[.int .i64 4, .func (.func 67) #[] #[]] 111))) hb1 (Nat.le_refl _)
          have hlen : ((barUp c t 3).length + [(4 : Int)].length) * 8 ≤ 140737488355328 := by have := barUp_len c t 3; simp; omega
          go_wp2_with (at_builtin; refine wpl_app_ints rfl (.tmp 28) (.tmp 31) 23 rfl (w.heap.size + 1) Tryz.underlying23 int_info A c0 (barUp c t 3) rfl (own_alloc hown1 _) (w1.heap.size + 1) (some ⟨w1.heap.size, 0, none⟩) 1 [4] rfl (ints_one _ _ _ (by simp) (by omega)) hlen (by simp; omega) ?_; intro A2 c2 w2 hown2 hg2 hat2)
          go_roundw
          case rel => exact ⟨4, A2, c2, by omega, rfl, (by rw [HN.out]; simp), (by rw [HN.out]; exact hown2), (hbe.alloc (by omega) _).grown hg2 (by simp; omega) (own_from hown1)⟩
          case measure => simp [intOf]
      · have q0 : wr.cell? ⟨w.heap.size, 8, none⟩ = some (.int .i64 5) := (cell_of_row wr _ 8 _ 111 (0, 0) hrow)
        have q1 : wr.cell? ⟨w.heap.size, 9, none⟩ = some (.func (.func 68) #[] #[]) := (cell_of_row wr _ 9 _ 111 (0, 0) hrow)
        have hcar' : Hid (CarAt (wr.alloc (.cells #[.int .i64 5, .func (.func 68) #[] #[]] 111)).drew X N c _ _ _ _ _ _ n _ _ _ _ _ _ _) := ⟨(hcar.alloc (.cells #[.int .i64 5, .func (.func 68) #[] #[]] 111)).car, (hcar.alloc (.cells #[.int .i64 5, .func (.func 68) #[] #[]] 111)).net⟩
        have Hr : Hid (CReads (wr.alloc (.cells #[.int .i64 5, .func (.func 68) #[] #[]] 111)).drew (wr.alloc (.cells #[.int .i64 5, .func (.func 68) #[] #[]] 111)).drew.heap.size c _ _ _ _ _ _) := ((hr1.alloc hrs (.cells #[.int .i64 5, .func (.func 68) #[] #[]] 111)).more (B' := (wr.alloc (.cells #[.int .i64 5, .func (.func 68) #[] #[]] 111)).heap.size) (by simp; omega)).keep (w' := (wr.alloc (.cells #[.int .i64 5, .func (.func 68) #[] #[]] 111)).drew) (fun _ _ => rfl)
        clear hr1 hcar hrow
        cases hT : barTest c t 4
        · have hN : barUp c t 5 = barUp c t 4 := by simp only [barUp, hT]; rw [if_neg (by simp)]
          have HN := Lib.hid hN; clear hN
          go_wp2_with fail
          refine wp_region_still_tail 13 (by kernel_rfl) (by kernel_rfl) ?_
          simp only [List.take_succ_cons, List.take_zero, List.drop_succ_cons, List.drop_zero]
          change wpStill _ _ (World.drew _) (fun a' => wpList _ _ _ _ a' (World.drew _)) _ _
          repeat still_step
          refine wpStill_nil ?_
          go_wp2_with fail
          have hC : Calls Tryz.prog 68 _ _ _ := rule_any 4 (by omega) X N c _ _ _ _ _ _ n _ _ _ _ _ _ _ t _ hcar'.out Hr.out
          refine hC.mono ?_
          clear hC
          rintro e w1 ⟨rfl, hb1⟩
          rw [hT]
          have hs1 : wr.heap.size < w1.heap.size := by have := hb1.size; simp [World.drew] at this; omega
          have z0 : w1.cell? ⟨wr.heap.size, 0, none⟩ = some (.int .i64 5) := cell_new_later hb1 0
          have hbe : Below (w.heap.size + 1) (w.alloc (.cells ruleRow.toArray 111)) w1 := below_step hbel hb1 (by omega)
          have hown1 : OwnInts w1 (w.heap.size + 1) A c0 (barUp c t 4) := own_below (own_drew (own_alloc hown (.cells #[.int .i64 5, .func (.func 68) #[] #[]] 111))) hb1 (Nat.le_refl _)
          go_wp2
          go_roundw
          case rel => exact ⟨5, A, c0, by omega, rfl, (by rw [HN.out]), (by rw [HN.out]; exact hown1), hbe⟩
          case measure => simp [intOf]
        · have hN : barUp c t 5 = barUp c t 4 ++ [5] := by simp only [barUp, hT]; rw [if_pos trivial]; rfl
          have HN := Lib.hid hN; clear hN
          go_wp2_with fail
          refine wp_region_still_tail 13 (by kernel_rfl) (by kernel_rfl) ?_
          simp only [List.take_succ_cons, List.take_zero, List.drop_succ_cons, List.drop_zero]
          change wpStill _ _ (World.drew _) (fun a' => wpList _ _ _ _ a' (World.drew _)) _ _
          repeat still_step
          refine wpStill_nil ?_
          go_wp2_with fail
          have hC : Calls Tryz.prog 68 _ _ _ := rule_any 4 (by omega) X N c _ _ _ _ _ _ n _ _ _ _ _ _ _ t _ hcar'.out Hr.out
          refine hC.mono ?_
          clear hC
          rintro e w1 ⟨rfl, hb1⟩
          rw [hT]
          have hs1 : wr.heap.size < w1.heap.size := by have := hb1.size; simp [World.drew] at this; omega
          have z0 : w1.cell? ⟨wr.heap.size, 0, none⟩ = some (.int .i64 5) := cell_new_later hb1 0
          have hbe : Below (w.heap.size + 1) (w.alloc (.cells ruleRow.toArray 111)) w1 := below_step hbel hb1 (by omega)
          have hown1 : OwnInts w1 (w.heap.size + 1) A c0 (barUp c t 4) := own_below (own_drew (own_alloc hown (.cells #[.int .i64 5, .func (.func 68) #[] #[]] 111))) hb1 (Nat.le_refl _)
          have hlen : ((barUp c t 4).length + [(5 : Int)].length) * 8 ≤ 140737488355328 := by have := barUp_len c t 4; simp; omega
          go_wp2_with (at_builtin; refine wpl_app_ints rfl (.tmp 28) (.tmp 31) 23 rfl (w.heap.size + 1) Tryz.underlying23 int_info A c0 (barUp c t 4) rfl (own_alloc hown1 _) (w1.heap.size + 1) (some ⟨w1.heap.size, 0, none⟩) 1 [5] rfl (ints_one _ _ _ (by simp) (by omega)) hlen (by simp; omega) ?_; intro A2 c2 w2 hown2 hg2 hat2)
          go_roundw
          case rel => exact ⟨5, A2, c2, by omega, rfl, (by rw [HN.out]; simp), (by rw [HN.out]; exact hown2), (hbe.alloc (by omega) _).grown hg2 (by simp; omega) (own_from hown1)⟩
          case measure => simp [intOf]
      · have q0 : wr.cell? ⟨w.heap.size, 10, none⟩ = some (.int .i64 6) := (cell_of_row wr _ 10 _ 111 (0, 0) hrow)
        have q1 : wr.cell? ⟨w.heap.size, 11, none⟩ = some (.func (.func 69) #[] #[]) := (cell_of_row wr _ 11 _ 111 (0, 0) hrow)
        have hcar' : Hid (CarAt (wr.alloc (.cells #[.int .i64 6, .func (.func 69) #[] #[]] 111)).drew X N c _ _ _ _ _ _ n _ _ _ _ _ _ _) := ⟨(hcar.alloc (.cells #[.int .i64 6, .func (.func 69) #[] #[]] 111)).car, (hcar.alloc (.cells #[.int .i64 6, .func (.func 69) #[] #[]] 111)).net⟩
        have Hr : Hid (CReads (wr.alloc (.cells #[.int .i64 6, .func (.func 69) #[] #[]] 111)).drew (wr.alloc (.cells #[.int .i64 6, .func (.func 69) #[] #[]] 111)).drew.heap.size c _ _ _ _ _ _) := ((hr1.alloc hrs (.cells #[.int .i64 6, .func (.func 69) #[] #[]] 111)).more (B' := (wr.alloc (.cells #[.int .i64 6, .func (.func 69) #[] #[]] 111)).heap.size) (by simp; omega)).keep (w' := (wr.alloc (.cells #[.int .i64 6, .func (.func 69) #[] #[]] 111)).drew) (fun _ _ => rfl)
        clear hr1 hcar hrow
        cases hT : barTest c t 5
        · have hN : barUp c t 6 = barUp c t 5 := by simp only [barUp, hT]; rw [if_neg (by simp)]
          have HN := Lib.hid hN; clear hN
          go_wp2_with fail
          refine wp_region_still_tail 13 (by kernel_rfl) (by kernel_rfl) ?_
          simp only [List.take_succ_cons, List.take_zero, List.drop_succ_cons, List.drop_zero]
          change wpStill _ _ (World.drew _) (fun a' => wpList _ _ _ _ a' (World.drew _)) _ _
          repeat still_step
          refine wpStill_nil ?_
          go_wp2_with fail
          have hC : Calls Tryz.prog 69 _ _ _ := rule_any 5 (by omega) X N c _ _ _ _ _ _ n _ _ _ _ _ _ _ t _ hcar'.out Hr.out
          refine hC.mono ?_
          clear hC
          rintro e w1 ⟨rfl, hb1⟩
          rw [hT]
          have hs1 : wr.heap.size < w1.heap.size := by have := hb1.size; simp [World.drew] at this; omega
          have z0 : w1.cell? ⟨wr.heap.size, 0, none⟩ = some (.int .i64 6) := cell_new_later hb1 0
          have hbe : Below (w.heap.size + 1) (w.alloc (.cells ruleRow.toArray 111)) w1 := below_step hbel hb1 (by omega)
          have hown1 : OwnInts w1 (w.heap.size + 1) A c0 (barUp c t 5) := own_below (own_drew (own_alloc hown (.cells #[.int .i64 6, .func (.func 69) #[] #[]] 111))) hb1 (Nat.le_refl _)
          go_wp2
          go_roundw
          case rel => exact ⟨6, A, c0, by omega, rfl, (by rw [HN.out]), (by rw [HN.out]; exact hown1), hbe⟩
          case measure => simp [intOf]
        · have hN : barUp c t 6 = barUp c t 5 ++ [6] := by simp only [barUp, hT]; rw [if_pos trivial]; rfl
          have HN := Lib.hid hN; clear hN
          go_wp2_with fail
          refine wp_region_still_tail 13 (by kernel_rfl) (by kernel_rfl) ?_
          simp only [List.take_succ_cons, List.take_zero, List.drop_succ_cons, List.drop_zero]
          change wpStill _ _ (World.drew _) (fun a' => wpList _ _ _ _ a' (World.drew _)) _ _
          repeat still_step
          refine wpStill_nil ?_
          go_wp2_with fail
          have hC : Calls Tryz.prog 69 _ _ _ := rule_any 5 (by omega) X N c _ _ _ _ _ _ n _ _ _ _ _ _ _ t _ hcar'.out Hr.out
          refine hC.mono ?_
          clear hC
          rintro e w1 ⟨rfl, hb1⟩
          rw [hT]
          have hs1 : wr.heap.size < w1.heap.size := by have := hb1.size; simp [World.drew] at this; omega
          have z0 : w1.cell? ⟨wr.heap.size, 0, none⟩ = some (.int .i64 6) := cell_new_later hb1 0
          have hbe : Below (w.heap.size + 1) (w.alloc (.cells ruleRow.toArray 111)) w1 := below_step hbel hb1 (by omega)
          have hown1 : OwnInts w1 (w.heap.size + 1) A c0 (barUp c t 5) := own_below (own_drew (own_alloc hown (.cells #[.int .i64 6, .func (.func 69) #[] #[]] 111))) hb1 (Nat.le_refl _)
          have hlen : ((barUp c t 5).length + [(6 : Int)].length) * 8 ≤ 140737488355328 := by have := barUp_len c t 5; simp; omega
          go_wp2_with (at_builtin; refine wpl_app_ints rfl (.tmp 28) (.tmp 31) 23 rfl (w.heap.size + 1) Tryz.underlying23 int_info A c0 (barUp c t 5) rfl (own_alloc hown1 _) (w1.heap.size + 1) (some ⟨w1.heap.size, 0, none⟩) 1 [6] rfl (ints_one _ _ _ (by simp) (by omega)) hlen (by simp; omega) ?_; intro A2 c2 w2 hown2 hg2 hat2)
          go_roundw
          case rel => exact ⟨6, A2, c2, by omega, rfl, (by rw [HN.out]; simp), (by rw [HN.out]; exact hown2), (hbe.alloc (by omega) _).grown hg2 (by simp; omega) (own_from hown1)⟩
          case measure => simp [intOf]
    · obtain rfl : j = 6 := by omega
      go_wp2
      go_ret
      exact ⟨A, c0, rfl, own_base hown, ((Below.refl w.heap.size w).alloc (Nat.le_refl _) _).trans (hbel.mono (by omega))⟩
end Go.Proofs.YtpbjpochjagicaaGreatDoorRR
