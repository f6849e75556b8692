/- Walks: number, before, better (the reference's trips). Walks: at (the reference's best trip to a station). Plain laws: the rounds of the reference's trips; where a car comes. Plain laws: the reference's best trip to a station is the way that Way finds. -/
import Derived.Test.YtpbjpochjagicaaGreatSw
import Derived.BigQuiet
import Derived.Test.YtpbjpochjagicaaGreatW15
namespace Go.Proofs.YtpbjpochjagicaaGreat.Pl
theorem lex_step {l k : List Int} {i : Nat} (h1 : i < l.length) (h2 : i < k.length) : lexLess (l.drop i) (k.drop i) = if l[i] < k[i] then true else if k[i] < l[i] then false else lexLess (l.drop (i + 1)) (k.drop (i + 1)) := by
  rw [List.drop_eq_getElem_cons h1, List.drop_eq_getElem_cons h2, lexLess]
/-- is a trip better, where there may be none? -/
def tBetter : Option Trip → Option Trip → Bool
  | none, _ => false
  | some s, o => beats s o
end Go.Proofs.YtpbjpochjagicaaGreat.Pl
namespace Go.Proofs.YtpbjpochjagicaaGreat
open Go.RowKit

theorem below_again {B : Nat} {w w' : World} (h : Below B w w') (k : Nat) : Below B w (w'.drewN k) := ⟨h.os, h.tape, h.output, h.size, h.block⟩
theorem two_at (w : World) (cs ds : Array Value) (t u : Nat) :
    ((w.alloc (.cells cs t)).alloc (.cells ds u)).heap[w.heap.size]? = some (.cells cs t (0, 0)) ∧ ((w.alloc (.cells cs t)).alloc (.cells ds u)).heap[w.heap.size + 1]? = some (.cells ds u (0, 0)) ∧
      Below w.heap.size w ((w.alloc (.cells cs t)).alloc (.cells ds u)) ∧ ((w.alloc (.cells cs t)).alloc (.cells ds u)).heap.size = w.heap.size + 2 := by
  refine ⟨blk_alloc (heap_alloc_new w _) _, ?_, ((Below.refl _ _).alloc (Nat.le_refl _) _).alloc (by simp) _, by simp⟩
  have := heap_alloc_new (w.alloc (.cells cs t)) (.cells ds u)
  simpa using this
theorem num_int {s g : Int} (hs : 0 ≤ s) (hg : 0 ≤ g) : ((Pl.numOf (s, g) : Nat) : Int) = s * 4 + g := by
  unfold Pl.numOf
  show (((s * 4 + g).toNat : Nat) : Int) = _
  omega
set_option maxHeartbeats 2000000 in
theorem number_any (s g : Int) (w : World) (hs0 : 0 ≤ s) (hs1 : s ≤ 5) (hg0 : 0 ≤ g) (hg1 : g ≤ 3) :
    Calls Tryz.prog 87 #[.agg #[.int .i64 s, .int .i64 g]] w fun e w' => e = .returned (.int .i64 ((Pl.numOf (s, g) : Nat) : Int)) ∧ Below w.heap.size w w' := by
  have HN := Lib.hid (num_int hs0 hg0)
  have hB : Hid (Below w.heap.size w (w.alloc (.cells #[.int .i64 s, .int .i64 g] 83))) := (Below.refl _ _).alloc (Nat.le_refl _) _
  go_enter Tryz.func87, Tryz.ntmps87
  go_wp2_with fail
  go_ret
  exact ⟨by rw [HN.out]; rfl, hB.out⟩

set_option maxRecDepth 20000 in
set_option maxHeartbeats 4000000 in
theorem before_any (xs ys : List Int) (xA yA : Option Addr) (xc yc : Nat) (w : World) (hx : Ints w w.heap.size xA xs) (hy : Ints w w.heap.size yA ys) (lx : xs.length ≤ 1000) (_ly : ys.length ≤ 1000) :
    Calls Tryz.prog 108 #[.slice xA xs.length xc, .slice yA ys.length yc] w fun e w' => e = .returned (.bool (Pl.lexLess xs ys)) ∧ Below w.heap.size w w' := by
  have HX := Lib.hid hx
  have HY := Lib.hid hy
  have HA0 : Hid (Pl.lexLess xs ys = Pl.lexLess (xs.drop 0) (ys.drop 0)) := rfl
  clear hx hy
  go_enter Tryz.func108, Tryz.ntmps108
  go_wp2_with fail
  go_loopw [5] (fun iv wr => ∃ k : Nat, k ≤ xs.length ∧ k ≤ ys.length ∧ iv = .int .i64 k ∧ Hid (Pl.lexLess xs ys = Pl.lexLess (xs.drop k) (ys.drop k)) ∧ Hid (Below w.heap.size w wr)) (fun i _ => xs.length - (intOf i).toNat)
  case atStart => exact ⟨0, Nat.zero_le _, Nat.zero_le _, rfl, HA0.out, Below.refl _ _⟩
  case round =>
    obtain ⟨k, hkx, hky, rfl, hA, hB⟩ := hrel
    clear HA0
    by_cases h1 : k < xs.length
    · have h1i : (k : Int) < (xs.length : Int) := by omega
      by_cases h2 : k < ys.length
      · have h2i : (k : Int) < (ys.length : Int) := by omega
        obtain ⟨bx, ox, hxa, hbx, hcx⟩ := HX.out.below hB.out k xs[k] (List.getElem?_eq_getElem h1)
        obtain ⟨by', oy, hya, hby, hcy⟩ := HY.out.below hB.out k ys[k] (List.getElem?_eq_getElem h2)
        have hst := Pl.lex_step h1 h2
        generalize xs[k] = u at hcx hst
        generalize ys[k] = v at hcy hst
        subst hxa hya
        have HST := Lib.hid hst
        clear hst hbx hby
        by_cases huv : u = v
        · have hN : Hid (Pl.lexLess xs ys = Pl.lexLess (xs.drop (k + 1)) (ys.drop (k + 1))) := by show _ = _; rw [hA.out, HST.out, huv, if_neg (by omega), if_neg (by omega)]
          subst huv
          clear HST hA
          go_wp2_with fail
          go_quiet (fail)
          go_wp2_with fail
          go_roundw
          case rel => exact ⟨k + 1, by omega, by omega, by go_num, hN, below_again hB.out _⟩
          case measure => simp [intOf]; omega
        · have hN : Hid (Pl.lexLess xs ys = decide (u < v)) := by
            show _ = _
            rw [hA.out, HST.out]
            by_cases h : u < v
            · rw [if_pos h]; exact (decide_eq_true h).symm
            · rw [if_neg h, if_pos (by omega)]; exact (decide_eq_false h).symm
          have hne : (u != v) = true := by rw [bne_iff_ne]; exact huv
          clear HST hA
          go_wp2_with fail
          go_quiet (fail)
          go_wp2_with fail
          go_quiet (fail)
          go_wp2_with fail
          go_ret
          exact ⟨by rw [hN.out]; rfl, below_again (below_again hB.out _) _⟩
      · have h2i : decide ((k : Int) < (ys.length : Int)) = false := decide_eq_false (by omega)
        have hN : Hid (Pl.lexLess xs ys = decide (xs.length < ys.length)) := by
          show _ = _
          rw [hA.out, List.drop_eq_nil_of_le (by omega : ys.length ≤ k), List.drop_eq_getElem_cons h1, decide_eq_false (by omega : ¬ xs.length < ys.length)]
          rfl
        clear hA
        go_wp2_with fail
        go_ret
        exact ⟨by rw [hN.out]; rfl, hB.out⟩
    · have hN : Hid (Pl.lexLess xs ys = decide (xs.length < ys.length)) := by
        show _ = _
        rw [hA.out, List.drop_eq_nil_of_le (by omega : xs.length ≤ k)]
        by_cases h2 : k < ys.length
        · rw [List.drop_eq_getElem_cons h2, decide_eq_true (by omega : xs.length < ys.length)]
          rfl
        · rw [List.drop_eq_nil_of_le (by omega : ys.length ≤ k), decide_eq_false (by omega : ¬ xs.length < ys.length)]
          rfl
      have h1i : decide ((k : Int) < (xs.length : Int)) = false := decide_eq_false (by omega)
      clear hA
      go_wp2_with fail
      go_ret
      exact ⟨by rw [hN.out]; rfl, hB.out⟩

def tcVal (x : Tc) : Value := .agg #[.bool x.t.isSome, .int .i64 (tKm x.t), .int .i64 (tCh x.t), .slice x.A (tWay x.t).length x.c]
set_option maxRecDepth 20000 in
set_option maxHeartbeats 8000000 in
theorem rbetter_any (x y : Tc) (w : World) (hx : Ints w w.heap.size x.A (tWay x.t)) (hy : Ints w w.heap.size y.A (tWay y.t)) (lx : (tWay x.t).length ≤ 1000) (ly : (tWay y.t).length ≤ 1000) :
    Calls Tryz.prog 89 #[tcVal x, tcVal y] w fun e w' => e = .returned (.bool (Pl.tBetter x.t y.t)) ∧ Below w.heap.size w w' := by
  obtain ⟨x, xA, xc⟩ := x
  obtain ⟨y, yA, yc⟩ := y
  simp only [tcVal] at *
  cases x with
  | none =>
    have hB : ∀ (o1 o2 : Obj), Below w.heap.size w ((w.alloc o1).alloc o2) := fun o1 o2 => ((Below.refl _ _).alloc (Nat.le_refl _) _).alloc (by simp) _
    have HB := Lib.hid hB
    clear hx hy hB
    show Calls Tryz.prog 89 _ w fun e w' => e = .returned (.bool false) ∧ Below w.heap.size w w'
    simp only [tKm, tCh, tWay, Option.isSome_none]
    cases y with
    | none =>
      simp only [Option.isSome_none]
      go_enter Tryz.func89, Tryz.ntmps89
      go_wp2_with fail
      go_ret
      exact ⟨rfl, HB.out _ _⟩
    | some t =>
      obtain ⟨tw, tk, tc⟩ := t
      simp only [Option.isSome_some]
      go_enter Tryz.func89, Tryz.ntmps89
      go_wp2_with fail
      go_ret
      exact ⟨rfl, HB.out _ _⟩
  | some s =>
    obtain ⟨sw, sk, sc⟩ := s
    cases y with
    | none =>
      have hB : ∀ (o1 o2 : Obj), Below w.heap.size w ((w.alloc o1).alloc o2) := fun o1 o2 => ((Below.refl _ _).alloc (Nat.le_refl _) _).alloc (by simp) _
      have HB := Lib.hid hB
      clear hx hy hB
      simp only [tKm, tCh, tWay, Option.isSome_none, Option.isSome_some]
      go_enter Tryz.func89, Tryz.ntmps89
      go_wp2_with fail
      go_ret
      exact ⟨rfl, HB.out _ _⟩
    | some t =>
      obtain ⟨tw, tk, tc⟩ := t
      simp only [tKm, tCh, tWay, Option.isSome_some] at *
      obtain ⟨m0, m1, hb, hs⟩ := two_at w #[.bool true, .int .i64 sk, .int .i64 sc, .slice xA sw.length xc] #[.bool true, .int .i64 tk, .int .i64 tc, .slice yA tw.length yc] 100 100
      have HX := Lib.hid ((hx.below hb).more (B' := w.heap.size + 2) (by omega))
      have HY := Lib.hid ((hy.below hb).more (B' := w.heap.size + 2) (by omega))
      have HB := Lib.hid hb
      have HS := Lib.hid hs
      clear hx hy m0 m1 hb hs
      by_cases hkm : sk = tk
      · have hk1 : (sk != tk) = false := by simp [hkm]
        by_cases htu : sc = tc
        · have ht1 : (sc != tc) = false := by simp [htu]
          have hV : Hid (Pl.tBetter (some ⟨sw, sk, sc⟩) (some ⟨tw, tk, tc⟩) = Pl.lexLess sw tw) := by
            show Pl.better _ _ = _
            unfold Pl.better
            rw [if_neg (by simpa using hkm), if_neg (by simpa using htu)]
          clear hkm htu
          go_enter Tryz.func89, Tryz.ntmps89
          go_wp2_with (go_at_call 108; refine (before_any sw tw xA yA xc yc _ (by rw [HS.out]; exact HX.out) (by rw [HS.out]; exact HY.out) lx ly).mono ?_; rintro e w5 ⟨rfl, hb5⟩; have HB5 := Lib.hid hb5; clear hb5)
          go_ret
          exact ⟨by rw [hV.out]; rfl, HB.out.trans (HB5.out.mono (by rw [HS.out]; omega))⟩
        · have hV : Hid (Pl.tBetter (some ⟨sw, sk, sc⟩) (some ⟨tw, tk, tc⟩) = decide (sc < tc)) := by
            show Pl.better _ _ = _
            unfold Pl.better
            rw [if_neg (by simpa using hkm), if_pos htu]
          have ht1 : (sc != tc) = true := by rw [bne_iff_ne]; exact htu
          clear hkm htu
          go_enter Tryz.func89, Tryz.ntmps89
          go_wp2_with fail
          go_ret
          exact ⟨by rw [hV.out]; rfl, HB.out⟩
      · have hV : Hid (Pl.tBetter (some ⟨sw, sk, sc⟩) (some ⟨tw, tk, tc⟩) = decide (sk < tk)) := by
          show Pl.better _ _ = _
          unfold Pl.better
          rw [if_pos hkm]
        have hk1 : (sk != tk) = true := by rw [bne_iff_ne]; exact hkm
        clear hkm
        go_enter Tryz.func89, Tryz.ntmps89
        go_wp2_with fail
        go_ret
        exact ⟨by rw [hV.out]; rfl, HB.out⟩
end Go.Proofs.YtpbjpochjagicaaGreat

namespace Go.Proofs.YtpbjpochjagicaaGreat.Pl
def pick2 (t o : Option Trip) : Option Trip := if tBetter t o then t else o
/-- the best trip to a station on one of the first gauges. -/
def atTo (L : List (Option Trip)) (st : Int) : Nat → Option Trip
  | 0 => none
  | j + 1 => pick2 (L.getD (numOf (st, (j : Int) + 1)) none) (atTo L st j)
def atOf (L : List (Option Trip)) (st : Int) : Option Trip := atTo L st 3
end Go.Proofs.YtpbjpochjagicaaGreat.Pl
namespace Go.Proofs.YtpbjpochjagicaaGreat
open Go.RowKit

theorem four_set {w : World} {O : Nat} {a0 a1 a2 a3 a b c d : Value} {T : TypeId} (h : w.heap[O]? = some (.cells #[a0, a1, a2, a3] T (0, 0))) :
    ((((w.setCell ⟨O, 0, none⟩ a).setCell ⟨O, 1, none⟩ b).setCell ⟨O, 2, none⟩ c).setCell ⟨O, 3, none⟩ d).heap[O]? = some (.cells #[a, b, c, d] T (0, 0)) := by
  simp [World.setCell, Array.getElem?_modify, h]
theorem four_other (w : World) (O : Nat) (a b c d : Value) (k : Nat) (hk : k ≠ O) : ((((w.setCell ⟨O, 0, none⟩ a).setCell ⟨O, 1, none⟩ b).setCell ⟨O, 2, none⟩ c).setCell ⟨O, 3, none⟩ d).heap[k]? = w.heap[k]? := by
  rw [Below.heap_setCell _ _ _ _ hk, Below.heap_setCell _ _ _ _ hk, Below.heap_setCell _ _ _ _ hk, Below.heap_setCell _ _ _ _ hk]
theorem four_below {w0 w : World} {B O : Nat} (h : Below B w0 w) (hO : B ≤ O) (a b c d : Value) : Below B w0 ((((w.setCell ⟨O, 0, none⟩ a).setCell ⟨O, 1, none⟩ b).setCell ⟨O, 2, none⟩ c).setCell ⟨O, 3, none⟩ d) :=
  (((h.setCell (p := ⟨O, 0, none⟩) hO a).setCell (p := ⟨O, 1, none⟩) hO b).setCell (p := ⟨O, 2, none⟩) hO c).setCell (p := ⟨O, 3, none⟩) hO d
/-- A list of lines away from a block. -/
def IntsO (w : World) (O : Nat) (A : Option Addr) (xs : List Int) : Prop := IntsN w (fun b => b = O ∨ b + 1 = O) A xs
theorem IntsO.below {w w' : World} {O : Nat} {A : Option Addr} {xs : List Int} (h : IntsO w O A xs) (hb : Below w.heap.size w w') : IntsO w' O A xs := h.keep fun b hlt hs => ⟨hs, hb.block b hlt⟩
theorem IntsO.four {w : World} {O : Nat} {A : Option Addr} {xs : List Int} (h : IntsO w O A xs) (a b c d : Value) : IntsO ((((w.setCell ⟨O, 0, none⟩ a).setCell ⟨O, 1, none⟩ b).setCell ⟨O, 2, none⟩ c).setCell ⟨O, 3, none⟩ d) O A xs := h.keep fun k _ hs => ⟨hs, four_other w O a b c d k (fun e => hs (.inl e))⟩
theorem IntsO.four0 {w : World} {O : Nat} {A : Option Addr} {xs : List Int} (h : IntsO w (O + 1) A xs) (a b c d : Value) : IntsO ((((w.setCell ⟨O, 0, none⟩ a).setCell ⟨O, 1, none⟩ b).setCell ⟨O, 2, none⟩ c).setCell ⟨O, 3, none⟩ d) (O + 1) A xs := h.keep fun k _ hs => ⟨hs, four_other w O a b c d k (fun e => hs (.inr (by omega)))⟩
theorem TcsAt.away {w : World} {g : Nat} {ls : List Tc} (_h : TcsAt w g ls) (hgl : ∀ x ∈ ls, Ints w w.heap.size x.A (tWay x.t)) {w' : World} (hb : Below w.heap.size w w') {O : Nat} (hO : w.heap.size < O) {x : Tc} (hx : x ∈ ls) : IntsO w' O x.A (tWay x.t) := fun k v hv => by
  obtain ⟨b, off, h1, h2, h3⟩ := hgl x hx k v hv
  exact ⟨b, off, h1, Nat.lt_of_lt_of_le h2 hb.size, by omega, (hb.cell (p := ⟨b, off + k, none⟩) h2).trans h3⟩
theorem four_cells {w : World} {O : Nat} {a b c d : Value} {T : TypeId} (h : w.heap[O]? = some (.cells #[a, b, c, d] T (0, 0))) :
    w.cell? ⟨O, 0, none⟩ = some a ∧ w.cell? ⟨O, 1, none⟩ = some b ∧ w.cell? ⟨O, 2, none⟩ = some c ∧ w.cell? ⟨O, 3, none⟩ = some d := ⟨blk_cell h 0, blk_cell h 1, blk_cell h 2, blk_cell h 3⟩
def Z100 : Obj := .cells #[.bool false, .int .i64 0, .int .i64 0, .slice none 0 0] 100 (0, 0)

set_option maxRecDepth 20000 in
set_option maxHeartbeats 8000000 in
theorem rat_any (g cp : Nat) (ls : List Tc) (st : Int) (w : World) (hT : TcsAt w g ls) (hlen : ls.length = 24) (h0 : 0 ≤ st) (h5 : st ≤ 5) (hwl : ∀ x ∈ ls, (tWay x.t).length ≤ 1000) :
    Calls Tryz.prog 58 #[.slice (some ⟨g, 0, none⟩) 24 cp, .int .i64 st] w fun e w' => ∃ x : Tc, e = .returned (tcVal x) ∧ x.t = Pl.atOf (ls.map Tc.t) st ∧ Ints w' w'.heap.size x.A (tWay x.t) ∧ (tWay x.t).length ≤ 1000 ∧ Below w.heap.size w w' := by
  have hg := lt_of_block hT.blk
  have HT := Lib.hid hT
  have HWL := Lib.hid hwl
  have HAW : Hid (∀ W, Below w.heap.size w W → ∀ x ∈ ls, IntsO W (w.heap.size + 1) x.A (tWay x.t)) := fun W hW x hx => hT.away (fun y hy => (hT.ways y hy).ints) hW (by omega) hx
  clear hT hwl
  have hb0 : ∀ (o1 o2 : Obj), Below w.heap.size w ((w.alloc o1).alloc o2) := fun o1 o2 => ((Below.refl _ _).alloc (Nat.le_refl _) _).alloc (by simp) _
  have HB0 := Lib.hid hb0
  have hR0 : Hid (((w.alloc (.cells #[.bool false, .int .i64 0, .int .i64 0, .slice none 0 0] 100)).alloc (.cells #[.bool false, .int .i64 0, .int .i64 0, .slice none 0 0] 100)).heap[w.heap.size]? = some Z100) := blk_alloc (heap_alloc_new w _) _
  have hO0 : Hid (((w.alloc (.cells #[.bool false, .int .i64 0, .int .i64 0, .slice none 0 0] 100)).alloc (.cells #[.bool false, .int .i64 0, .int .i64 0, .slice none 0 0] 100)).heap[w.heap.size + 1]? = some (.cells #[.bool false, .int .i64 0, .int .i64 0, .slice none 0 0] 100 (0, 0))) := by
    have := heap_alloc_new (w.alloc (.cells #[.bool false, .int .i64 0, .int .i64 0, .slice none 0 0] 100)) (.cells #[.bool false, .int .i64 0, .int .i64 0, .slice none 0 0] 100)
    show _ = _
    simpa using this
  clear hb0
  go_enter Tryz.func58, Tryz.ntmps58
  go_wp2_with fail
  go_loopw [6] (fun iv wr => ∃ (j : Nat) (xt : Option Pl.Trip) (xA : Option Addr) (xc : Nat), j ≤ 3 ∧ iv = .int .i64 ((j : Int) + 1) ∧ Hid (xt = Pl.atTo (ls.map Tc.t) st j) ∧ Hid (wr.heap[w.heap.size + 1]? = some (.cells #[.bool xt.isSome, .int .i64 (tKm xt), .int .i64 (tCh xt), .slice xA (tWay xt).length xc] 100 (0, 0))) ∧
      Hid (wr.heap[w.heap.size]? = some Z100) ∧ Hid (IntsO wr (w.heap.size + 1) xA (tWay xt) ∧ (tWay xt).length ≤ 1000) ∧ Hid (Below w.heap.size w wr)) (fun i _ => 4 - (intOf i).toNat)
  case atStart => exact ⟨0, none, none, 0, by omega, rfl, rfl, hO0, hR0, ⟨IntsN.nil _ _ _, by simp [tWay]⟩, HB0.out _ _⟩
  case round =>
    obtain ⟨j, xt, xA, xc, hj, rfl, hx, hO, hR, hI, hB⟩ := hrel
    clear hO0 hR0 HB0
    have hsz : w.heap.size + 2 ≤ wr.heap.size := by have := lt_of_block hO.out; omega
    by_cases hj3 : j < 3
    · obtain ⟨N, hN⟩ : ∃ N, Pl.numOf (st, (j : Int) + 1) = N := ⟨_, rfl⟩
      have hNi := num_int h0 (by omega : 0 ≤ (j : Int) + 1)
      rw [hN] at hNi
      have hN24 : N < 24 := by omega
      have hN24i : (N : Int) < 24 := by omega
      obtain ⟨y, hy⟩ : ∃ y, ls[N]? = some y := ⟨_, List.getElem?_eq_getElem (by omega)⟩
      have hyl := HWL.out y (List.mem_of_getElem? hy)
      have HIy : Hid (∀ W, Below w.heap.size w W → IntsO W (w.heap.size + 1) y.A (tWay y.t)) := fun W hW => HAW.out W hW y (List.mem_of_getElem? hy)
      have HPY : Hid (∀ W, Below w.heap.size w W → W.cell? ⟨g, N * 4, none⟩ = some (.bool y.t.isSome) ∧ W.cell? ⟨g, N * 4 + 1, none⟩ = some (.int .i64 (tKm y.t)) ∧ W.cell? ⟨g, N * 4 + 2, none⟩ = some (.int .i64 (tCh y.t)) ∧ W.cell? ⟨g, N * 4 + 3, none⟩ = some (.slice y.A (tWay y.t).length y.c)) := fun W hW => by
        obtain ⟨a0, a1, a2, a3, _⟩ := (HT.out.below hW).pick hy
        exact ⟨a0, a1, a2, a3⟩
      have hnew : Pl.atTo (ls.map Tc.t) st (j + 1) = Pl.pick2 y.t xt := by
        rw [Pl.atTo, hN, ← hx.out, List.getD_eq_getElem?_getD, List.getElem?_map, hy]
        rfl
      have HNEW := Lib.hid hnew
      have HNN := Lib.hid hN
      have HNI := Lib.hid hNi
      obtain ⟨yt, yA, yc⟩ := y
      simp only at HIy HPY hyl HNEW
      have hji : (j : Int) + 1 ≤ 3 := by omega
      have hg2 : g < w.heap.size + 1 := by omega
      clear hy hnew hN hNi hx
      have hlx := hI.out.2
      go_upto_if 21 with (first
        | (go_at_call 87; refine (number_any st ((j : Int) + 1) _ h0 h5 (by omega) (by omega)).mono ?_; rintro e w5 ⟨rfl, hb5⟩; rw [HNN.out]; have HB5 := Lib.hid (hB.out.trans (hb5.mono (by omega))); have HO5 := Lib.hid (blk_below hO.out hb5 (by omega)); have HR5 := Lib.hid (blk_below hR.out hb5 (by omega)); have HI5 := Lib.hid (hI.out.1.below hb5); have hsz5 : w.heap.size + 2 ≤ w5.heap.size := Nat.le_trans hsz hb5.size; have hlt5 : w.heap.size + 1 < w5.heap.size := (by omega); obtain ⟨p0, p1, p2, p3⟩ := HPY.out w5 HB5.out; obtain ⟨o0, o1, o2, o3⟩ := four_cells HO5.out; clear hb5)
        | (go_at_call 89; refine (rbetter_any ⟨yt, yA, yc⟩ ⟨xt, xA, xc⟩ _ ((HIy.out _ (HB5.out.alloc (by omega) _)).ints) ((HI5.out.below ((Below.refl _ _).alloc (Nat.le_refl _) _)).ints) hyl hlx).mono ?_; rintro e w6 ⟨rfl, hb6⟩; have HB6 := Lib.hid hb6; clear hb6))
      have HM6 : Hid (w6.heap[w5.heap.size]? = some (.cells #[.bool yt.isSome, .int .i64 (tKm yt), .int .i64 (tCh yt), .slice yA (tWay yt).length yc] 100 (0, 0))) := blk_below (heap_alloc_new _ _) HB6.out (by simp)
      have HBw : Hid (Below w.heap.size w w6) := (HB5.out.alloc (by omega) _).trans (HB6.out.mono (by simp; omega))
      have HO6 : Hid (w6.heap[w.heap.size + 1]? = some (.cells #[.bool xt.isSome, .int .i64 (tKm xt), .int .i64 (tCh xt), .slice xA (tWay xt).length xc] 100 (0, 0))) := blk_below (blk_alloc HO5.out _) HB6.out (by simp; omega)
      have HR6 : Hid (w6.heap[w.heap.size]? = some Z100) := blk_below (blk_alloc HR5.out _) HB6.out (by simp; omega)
      have HI6 : Hid (IntsO w6 (w.heap.size + 1) xA (tWay xt)) := (HI5.out.below ((Below.refl _ _).alloc (Nat.le_refl _) _)).below HB6.out
      clear p0 p1 p2 p3 o0 o1 o2 o3 HO5 HR5 HI5 HB6
      cases hbt : Pl.tBetter yt xt
      · have HN : Hid (xt = Pl.atTo (ls.map Tc.t) st (j + 1)) := by show _ = _; rw [HNEW.out, Pl.pick2, hbt]; rfl
        go_wp2_with fail
        go_roundw
        case rel => exact ⟨j + 1, xt, xA, xc, by omega, by go_num, HN, HO6, HR6, ⟨HI6.out, hlx⟩, HBw⟩
        case measure => simp [intOf]; omega
      · have HN : Hid (yt = Pl.atTo (ls.map Tc.t) st (j + 1)) := by show _ = _; rw [HNEW.out, Pl.pick2, hbt]; rfl
        obtain ⟨m0, m1, m2, m3⟩ := four_cells HM6.out
        obtain ⟨o0, o1, o2, o3⟩ := four_cells HO6.out
        have f0 := blk_frozen HO6.out 0
        have f1 := blk_frozen HO6.out 1
        have f2 := blk_frozen HO6.out 2
        have f3 := blk_frozen HO6.out 3
        have HIY6 := Lib.hid (HIy.out w6 HBw.out)
        have HF := Lib.hid (four_set (a := .bool yt.isSome) (b := .int .i64 (tKm yt)) (c := .int .i64 (tCh yt)) (d := .slice yA (tWay yt).length yc) HO6.out)
        have HFR := Lib.hid ((four_other w6 (w.heap.size + 1) (.bool yt.isSome) (.int .i64 (tKm yt)) (.int .i64 (tCh yt)) (.slice yA (tWay yt).length yc) w.heap.size (by omega)).trans HR6.out)
        go_wp2_with fail
        go_roundw
        case rel => exact ⟨j + 1, yt, yA, yc, by omega, by go_num, HN, HF, HFR, ⟨HIY6.out.four _ _ _ _, hyl⟩, four_below HBw.out (by omega) _ _ _ _⟩
        case measure => simp [intOf]; omega
    · obtain rfl : j = 3 := by omega
      have hji : ¬ ((3 : Nat) : Int) + 1 ≤ 3 := by omega
      obtain ⟨r0, r1, r2, r3⟩ := four_cells hR.out
      obtain ⟨o0, o1, o2, o3⟩ := four_cells hO.out
      have f0 := blk_frozen hR.out 0
      have f1 := blk_frozen hR.out 1
      have f2 := blk_frozen hR.out 2
      have f3 := blk_frozen hR.out 3
      have hlx := hI.out.2
      have hAT := Lib.hid hx.out
      have hIO := Lib.hid (hI.out.1)
      clear hx hI
      go_wp2_with fail
      try simp only [Exit.inBlock, Exit.then]
      refine bodyPost_ret (v := tcVal ⟨xt, xA, xc⟩) (by simp [results, Tryz.results58, go_sem, r0, r1, r2, r3, tcVal]) rfl ?_
      exact ⟨⟨xt, xA, xc⟩, rfl, hAT.out, (hIO.out.four0 _ _ _ _).ints, hlx, four_below hB.out (Nat.le_refl _) _ _ _ _⟩
end Go.Proofs.YtpbjpochjagicaaGreat

namespace Go.Proofs.YtpbjpochjagicaaGreat.Pl

/-- over all lines but one. -/
def stepB (n : Nt) (c : Cch) (reb : List Int) (but : Int) : Step := fun p i => if (i : Int) = but then ((0, 0), false, 7) else run n c reb p i
theorem stepB_on {n : Nt} {c : Cch} {reb : List Int} {but : Int} {p : Place} {i : Nat} (h : (i : Int) ≠ but) : stepB n c reb but p i = run n c reb p i := if_neg h
theorem stepB_but {n : Nt} {c : Cch} {reb : List Int} {but : Int} {p : Place} {i : Nat} (h : (i : Int) = but) : (stepB n c reb but p i).2.2 ≠ 0 := by
  rw [stepB, if_pos h]
  decide
def spots : List Place := (nums 6).flatMap fun s => [(s, 1), (s, 2), (s, 3)]
theorem spots_length : spots.length ≤ 24 := by decide
theorem spots_in : ∀ p ∈ spots, 0 ≤ p.1 ∧ p.1 ≤ 5 ∧ 1 ≤ p.2 ∧ p.2 ≤ 3 := by decide
theorem mem_spots {p : Place} : p ∈ spots ↔ 0 ≤ p.1 ∧ p.1 ≤ 5 ∧ 1 ≤ p.2 ∧ p.2 ≤ 3 := by
  refine ⟨spots_in p, fun h => ?_⟩
  obtain ⟨s, g⟩ := p
  obtain ⟨h1, h2, h3, h4⟩ := h
  simp only at h1 h2 h3 h4
  have hs : s = 0 ∨ s = 1 ∨ s = 2 ∨ s = 3 ∨ s = 4 ∨ s = 5 := by omega
  have hg : g = 1 ∨ g = 2 ∨ g = 3 := by omega
  rcases hs with rfl | rfl | rfl | rfl | rfl | rfl <;> rcases hg with rfl | rfl | rfl <;> decide
theorem run_end {n : Nt} {c : Cch} {reb : List Int} {p : Place} {i : Nat} (h : (run n c reb p i).2.2 = 0) :
    (p.1 = (n.tracks.getD i default).a ∨ p.1 = (n.tracks.getD i default).b) ∧ (run n c reb p i).1.1 = (if p.1 = (n.tracks.getD i default).a then (n.tracks.getD i default).b else (n.tracks.getD i default).a) ∧
      ((run n c reb p i).1.2 = p.2 ∨ (run n c reb p i).1.2 = (n.tracks.getD i default).gauge) ∧ (run n c reb p i).2.1 = decide ((run n c reb p i).1.2 ≠ p.2) := by
  unfold run at h ⊢
  generalize decide ((i : Int) ∈ reb) = rb at h ⊢
  generalize n.tracks.getD i default = t at h ⊢
  have hto : ∀ s, (runTo n.shops c rb p t s).2.2 = 0 → (runTo n.shops c rb p t s).1.1 = s ∧ ((runTo n.shops c rb p t s).1.2 = p.2 ∨ (runTo n.shops c rb p t s).1.2 = t.gauge) ∧ (runTo n.shops c rb p t s).2.1 = decide ((runTo n.shops c rb p t s).1.2 ≠ p.2) := by
    intro s h
    unfold runTo at h ⊢
    cases rb
    · simp only [Bool.false_eq_true, if_false] at h ⊢
      cases hb : barred c t with
      | cons b l =>
        rw [hb] at h
        have hm : b ∈ barred c t := by rw [hb]; simp
        simp only at h
        subst h
        exfalso
        unfold barred at hm
        simp only [List.mem_append] at hm
        rcases hm with ((((hm | hm) | hm) | hm) | hm) | hm <;> (split at hm <;> simp at hm)
      | nil =>
        rw [hb] at h
        simp only at h ⊢
        split
        · rename_i h1; rw [if_pos h1] at h; simp at h
        · exact ⟨rfl, .inr rfl, rfl⟩
    · simp
  unfold runT at h ⊢
  by_cases h1 : p.1 = t.a
  · rw [if_pos h1] at h ⊢
    rw [if_pos h1]
    exact ⟨.inl h1, hto _ h⟩
  · rw [if_neg h1] at h ⊢
    rw [if_neg h1]
    by_cases h2 : p.1 = t.b
    · rw [if_pos h2] at h ⊢
      exact ⟨.inr h2, hto _ h⟩
    · rw [if_neg h2] at h
      simp at h
theorem stepB_run {n : Nt} {c : Cch} {reb : List Int} {but : Int} {p : Place} {i : Nat} (h : (stepB n c reb but p i).2.2 = 0) : (i : Int) ≠ but ∧ stepB n c reb but p i = run n c reb p i := by
  by_cases e : (i : Int) = but
  · exact absurd h (stepB_but e)
  · exact ⟨e, stepB_on e⟩

/-- what of a round is done: all places before one, and its first lines. -/
def Before (st ga : Int) (i : Nat) (p : Place) (j : Nat) : Prop := p.1 < st ∨ (p.1 = st ∧ (p.2 < ga ∨ (p.2 = ga ∧ j < i)))
structure Rnd (n : Nt) (r : Step) (p0 : Place) (m : Nat) (U : List Place) (L0 : List (Option Trip)) (D : Place → Nat → Prop) (L : List (Option Trip)) (ch : Bool) : Prop where
  cells : Cells n r p0 m U L
  cost : costs n r p0 m L ≤ costs n r p0 m L0
  less : ch = true → costs n r p0 m L < costs n r p0 m L0
  still : ch = false → ∀ p ∈ U, ∀ t, L[numOf p]? = some (some t) → ∀ j, j < m → D p j → (r p j).2.2 = 0 → ∀ o, L[numOf (r p j).1]? = some o → beats (ext n r p t j) o = false
section
variable {n : Nt} {r : Step} {p0 : Place} {m : Nat} {U : List Place} {L0 L : List (Option Trip)} {D D' : Place → Nat → Prop} {ch : Bool}
theorem Rnd.start (h : Cells n r p0 m U L) (hD : ∀ p ∈ U, ∀ j, ¬ D p j) : Rnd n r p0 m U L D L false :=
  ⟨h, Nat.le_refl _, (fun e => by cases e), fun _ p hp _ _ j _ hd => absurd hd (hD p hp j)⟩
theorem Rnd.move (h : Rnd n r p0 m U L0 D L ch) (hD : ∀ p ∈ U, ∀ t, L[numOf p]? = some (some t) → ∀ j, j < m → D' p j → (r p j).2.2 = 0 → D p j ∨ ∀ o, L[numOf (r p j).1]? = some o → beats (ext n r p t j) o = false) : Rnd n r p0 m U L0 D' L ch :=
  ⟨h.cells, h.cost, h.less, fun e p hp t ht j hj hd hz o ho => by
    rcases hD p hp t ht j hj hd hz with h1 | h1
    · exact h.still e p hp t ht j hj h1 hz o ho
    · exact h1 o ho⟩
theorem Rnd.put (h : Rnd n r p0 m U L0 D L ch) (hf : Fine n r p0 m U) {p : Place} (hp : p ∈ U) {t : Trip} (ht : L[numOf p]? = some (some t)) {i : Nat} (hi : i < m) (hz : (r p i).2.2 = 0) {o : Option Trip} (ho : L[numOf (r p i).1]? = some o)
    (hb : beats (ext n r p t i) o = true) : Rnd n r p0 m U L0 D' (L.set (numOf (r p i).1) (some (ext n r p t i))) true := by
  obtain ⟨h1, l, h2, h3, h4⟩ := h.cells.put hf hp ht hi hz ho hb
  rw [h4] at hb
  have hc := cost_put hf ho h2 h3 hb
  rw [← h4] at hc
  have := h.cost
  exact ⟨h1, by omega, fun _ => by omega, (fun e => by cases e)⟩
/-- What is known of a trip in the cells. -/
theorem Cells.bounds (h : Cells n r p0 m U L) (hf : Fine n r p0 m U) (hk : ∀ i, i < m → (n.tracks.getD i default).km ≤ 99) {p : Place} (hp : p ∈ U) {t : Trip} (ht : L[numOf p]? = some (some t)) :
    t.way.length ≤ 23 ∧ 0 ≤ t.km ∧ t.km ≤ 3000 ∧ 0 ≤ t.changes ∧ t.changes ≤ 23 := by
  obtain ⟨l, h1, _, rfl, h4, _⟩ := h.ok p hp t ht
  have hlen := length_le_of_nodup_subset _ U h4 (hf.visit l p0 hf.p0 h1)
  rw [visits_length] at hlen
  have hU := hf.len
  have hkm : ∀ (l : List Nat) (p : Place), RunOk m r p l → 0 ≤ kmOf n l ∧ kmOf n l ≤ 99 * (l.length : Int) := by
    intro l
    induction l with
    | nil => intro p _; simp [kmOf]
    | cons j l ih =>
      intro p h
      have h1 := hk j h.1
      have h2 := hf.km j h.1
      have h3 := ih _ h.2.2
      simp only [kmOf, List.length_cons]
      push_cast
      omega
  have hch : ∀ (l : List Nat) (p : Place), 0 ≤ chOf r p l ∧ chOf r p l ≤ (l.length : Int) := by
    intro l
    induction l with
    | nil => intro p; simp [chOf]
    | cons j l ih =>
      intro p
      have h3 := ih (r p j).1
      simp only [chOf, List.length_cons]
      push_cast
      split <;> omega
  have k1 := hkm l p0 h1
  have k2 := hch l p0
  have k3 : (ints l).length = l.length := by simp [ints]
  refine ⟨?_, ?_, ?_, ?_, ?_⟩
  · show (ints l).length ≤ 23; omega
  · exact k1.1
  · show kmOf n l ≤ 3000; omega
  · exact k2.1
  · show chOf r p0 l ≤ 23; omega
end
end Go.Proofs.YtpbjpochjagicaaGreat.Pl
namespace Go.Proofs.YtpbjpochjagicaaGreat
open Go.RowKit

theorem trk_at {n : Pl.Nt} (h : Pl.check n = 0) {i : Nat} (hi : i < n.tracks.length) : TrkOk n.stops (n.tracks.getD i default) := by
  have e : n.tracks.getD i default = n.tracks[i] := by simp [List.getD_eq_getElem?_getD, List.getElem?_eq_getElem hi]
  rw [e]
  exact (check_tracks h).2 _ (List.getElem_mem hi)
theorem fine_spots {n : Pl.Nt} {c : Pl.Cch} {reb : List Int} {but : Int} {p0 : Pl.Place} (hck : Pl.check n = 0) (h0 : p0 ∈ Pl.spots) : Pl.Fine n (Pl.stepB n c reb but) p0 n.tracks.length Pl.spots where
  p0 := h0
  close := fun p hp i hi hz => by
    obtain ⟨_, e⟩ := Pl.stepB_run hz
    rw [e] at hz ⊢
    obtain ⟨h1, h2, h3, _⟩ := Pl.run_end hz
    have ok := trk_at hck hi
    have hs := check_stops hck
    rw [Pl.mem_spots] at hp ⊢
    have := ok.a0; have := ok.a1; have := ok.b0; have := ok.b1; have := ok.g0; have := ok.g1
    rw [h2]
    split <;> omega
  lt := fun p hp => by
    have := Pl.mem_spots.1 hp
    unfold Pl.numOf
    omega
  inj := fun p hp q hq h => by
    have h1 := Pl.mem_spots.1 hp
    have h2 := Pl.mem_spots.1 hq
    unfold Pl.numOf at h
    obtain ⟨a, b⟩ := p
    obtain ⟨x, y⟩ := q
    simp only at h1 h2 h
    have : a = x ∧ b = y := by omega
    rw [this.1, this.2]
  km := fun i hi => (trk_at hck hi).km0
  len := Pl.spots_length
/-- A whole round without a change: nothing becomes better. -/
theorem round_still {n : Pl.Nt} {c : Pl.Cch} {reb : List Int} {but : Int} {p0 : Pl.Place} {L0 L : List (Option Pl.Trip)} {ga : Int} {i : Nat} (hck : Pl.check n = 0) (h : Pl.Rnd n (Pl.stepB n c reb but) p0 n.tracks.length Pl.spots L0 (Pl.Before n.stops ga i) L false) :
    Pl.Still n (Pl.stepB n c reb but) n.tracks.length Pl.spots L := fun p hp t ht j hj hz o ho => by
  refine h.still rfl p hp t ht j hj (.inl ?_) hz o ho
  obtain ⟨_, e⟩ := Pl.stepB_run hz
  rw [e] at hz
  obtain ⟨h1, _⟩ := Pl.run_end hz
  have ok := trk_at hck hj
  have := ok.a1; have := ok.b1
  omega
/-- Where the car comes, as the trips tell. -/
theorem at_some {L : List (Option Pl.Trip)} {st : Int} : (Pl.atOf L st).isSome = true ↔ ∃ g : Int, 1 ≤ g ∧ g ≤ 3 ∧ ∃ t, L.getD (Pl.numOf (st, g)) none = some t := by
  have hp : ∀ t o : Option Pl.Trip, (Pl.pick2 t o).isSome = true ↔ t.isSome = true ∨ o.isSome = true := by
    intro t o
    cases t with
    | none => simp [Pl.pick2, Pl.tBetter]
    | some t =>
      cases o with
      | none => simp [Pl.pick2, Pl.tBetter, Pl.beats]
      | some o => unfold Pl.pick2; split <;> simp
  have hs : ∀ k, (Pl.atTo L st k).isSome = true ↔ ∃ j, j < k ∧ (L.getD (Pl.numOf (st, (j : Int) + 1)) none).isSome = true := by
    intro k
    induction k with
    | zero => simp [Pl.atTo]
    | succ k ih =>
      rw [Pl.atTo, hp, ih]
      constructor
      · rintro (h | ⟨j, h1, h2⟩)
        · exact ⟨k, by omega, h⟩
        · exact ⟨j, by omega, h2⟩
      · rintro ⟨j, h1, h2⟩
        by_cases e : j = k
        · subst e; exact .inl h2
        · exact .inr ⟨j, by omega, h2⟩
  unfold Pl.atOf
  rw [hs]
  constructor
  · rintro ⟨j, h1, h2⟩
    exact ⟨(j : Int) + 1, by omega, by omega, Option.isSome_iff_exists.1 h2⟩
  · rintro ⟨g, h1, h2, h3⟩
    refine ⟨(g - 1).toNat, by omega, ?_⟩
    rw [show (((g - 1).toNat : Nat) : Int) + 1 = g by omega]
    exact Option.isSome_iff_exists.2 h3
theorem at_gets {n : Pl.Nt} {c : Pl.Cch} {reb : List Int} {but : Int} {p0 : Pl.Place} {L : List (Option Pl.Trip)} {st : Int} (hck : Pl.check n = 0) (h0 : p0 ∈ Pl.spots) (hc : Pl.Cells n (Pl.stepB n c reb but) p0 n.tracks.length Pl.spots L)
    (hs : Pl.Still n (Pl.stepB n c reb but) n.tracks.length Pl.spots L) (s0 : 0 ≤ st) (s5 : st ≤ 5) : (Pl.atOf L st).isSome = true ↔ ∃ z, Pl.Gets (Pl.stepB n c reb but) n.tracks.length p0 z ∧ z.1 = st := by
  have hf := fine_spots (c := c) (reb := reb) (but := but) hck h0
  rw [at_some]
  constructor
  · rintro ⟨g, g1, g3, t, ht⟩
    have hm : ((st, g) : Pl.Place) ∈ Pl.spots := Pl.mem_spots.2 ⟨s0, s5, g1, g3⟩
    have hlt : Pl.numOf (st, g) < L.length := by rw [hc.len]; exact hf.lt _ hm
    rw [List.getD_eq_getElem?_getD, List.getElem?_eq_getElem hlt] at ht
    obtain ⟨l, h1, h2, _⟩ := hc.ok _ hm t (by rw [List.getElem?_eq_getElem hlt]; exact congrArg some ht)
    exact ⟨_, Pl.run_gets h1, by rw [h2]⟩
  · rintro ⟨z, hz, rfl⟩
    obtain ⟨l, h1, h2⟩ : ∃ l, Pl.RunOk n.tracks.length (Pl.stepB n c reb but) p0 l ∧ Pl.endOf (Pl.stepB n c reb but) p0 l = z := by
      induction hz with
      | refl => exact ⟨[], trivial, rfl⟩
      | @step x i _ hi hz ih =>
        obtain ⟨l, h1, h2⟩ := ih (by
          have := Pl.stepB_run hz
          rw [this.2] at hz
          have hr := (Pl.run_end hz).1
          have ok := trk_at hck hi
          have := ok.a0; have := ok.b0
          omega) (by
          have := Pl.stepB_run hz
          rw [this.2] at hz
          have hr := (Pl.run_end hz).1
          have ok := trk_at hck hi
          have := ok.a1; have := ok.b1; have := check_stops hck
          omega)
        refine ⟨l ++ [i], (Pl.run_append l [i] p0).2 ⟨h1, by rw [h2]; exact ⟨hi, hz, trivial⟩⟩, ?_⟩
        rw [Pl.end_append, h2]
        rfl
    obtain ⟨t, ht, _⟩ := hc.best hf hs l.length l rfl h1
    rw [h2] at ht
    have hm : z ∈ Pl.spots := h2 ▸ hf.ends l p0 h0 h1
    have hz := Pl.mem_spots.1 hm
    exact ⟨z.2, hz.2.2.1, hz.2.2.2, t, by rw [List.getD_eq_getElem?_getD]; show (L[Pl.numOf z]?).getD none = _; rw [ht]; rfl⟩
end Go.Proofs.YtpbjpochjagicaaGreat

namespace Go.Proofs.YtpbjpochjagicaaGreat.Pl

theorem stepB_all {n : Nt} {c : Cch} {reb : List Int} : stepB n c reb (-1) = run n c reb := by
  funext p i
  exact stepB_on (by omega)
/-- What 'at' finds is no worse than each of its cells. -/
theorem atTo_least (L : List (Option Trip)) (st : Int) : ∀ k, (atTo L st k = none → ∀ j, j < k → L.getD (numOf (st, (j : Int) + 1)) none = none) ∧
    ∀ t, atTo L st k = some t → (∃ j, j < k ∧ L.getD (numOf (st, (j : Int) + 1)) none = some t) ∧ ∀ j s, j < k → L.getD (numOf (st, (j : Int) + 1)) none = some s → better s t = false
  | 0 => ⟨fun _ j hj => absurd hj (Nat.not_lt_zero j), fun t h => by cases h⟩
  | k + 1 => by
    obtain ⟨ih1, ih2⟩ := atTo_least L st k
    rw [atTo]
    cases hx : L.getD (numOf (st, (k : Int) + 1)) none with
    | none =>
      have e : pick2 none (atTo L st k) = atTo L st k := rfl
      rw [e]
      refine ⟨fun h j hj => ?_, fun t h => ?_⟩
      · by_cases hjk : j = k
        · subst hjk; exact hx
        · exact ih1 h j (by omega)
      · obtain ⟨⟨j, h1, h2⟩, h3⟩ := ih2 t h
        refine ⟨⟨j, by omega, h2⟩, fun j s hj hs => ?_⟩
        by_cases hjk : j = k
        · subst hjk; rw [hx] at hs; cases hs
        · exact h3 j s (by omega) hs
    | some s =>
      cases ho : atTo L st k with
      | none =>
        refine ⟨(fun h => by cases h), fun t h => ?_⟩
        obtain rfl : s = t := by injection h
        refine ⟨⟨k, by omega, hx⟩, fun j u hj hu => ?_⟩
        by_cases hjk : j = k
        · subst hjk
          rw [hx] at hu
          injection hu with hu
          subst hu
          exact better_self _
        · rw [ih1 ho j (by omega)] at hu; cases hu
      | some o =>
        obtain ⟨⟨j0, h1, h2⟩, h3⟩ := ih2 o ho
        cases hb : better s o
        · have e : pick2 (some s) (some o) = some o := by
            show (if better s o = true then some s else some o) = some o
            rw [hb]; rfl
          rw [e]
          refine ⟨(fun h => by cases h), fun t h => ?_⟩
          obtain rfl : o = t := by injection h
          refine ⟨⟨j0, by omega, h2⟩, fun j u hj hu => ?_⟩
          by_cases hjk : j = k
          · subst hjk
            rw [hx] at hu
            injection hu with hu
            subst hu
            exact hb
          · exact h3 j u (by omega) hu
        · have e : pick2 (some s) (some o) = some s := by
            show (if better s o = true then some s else some o) = some s
            rw [hb]; rfl
          rw [e]
          refine ⟨(fun h => by cases h), fun t h => ?_⟩
          obtain rfl : s = t := by injection h
          refine ⟨⟨k, by omega, hx⟩, fun j u hj hu => ?_⟩
          by_cases hjk : j = k
          · subst hjk
            rw [hx] at hu
            injection hu with hu
            subst hu
            exact better_self _
          · exact better_neg_trans (h3 j u (by omega) hu) (better_asymm hb)
theorem prefix_good {m : Nat} {r : Step} {ds : Int} : ∀ (l : List Nat) (p : Place), RunOk m r p l → (endOf r p l).1 = ds → ∃ a b, l = a ++ b ∧ Good m r ds p a
  | [], p, _, h => ⟨[], [], rfl, h⟩
  | i :: l, p, h, he => by
    by_cases hp : p.1 = ds
    · exact ⟨[], i :: l, rfl, hp⟩
    · obtain ⟨a, b, e, hg⟩ := prefix_good l _ h.2.2 he
      exact ⟨i :: a, b, by rw [e]; rfl, hp, h.1, h.2.1, hg⟩
theorem visits_sub (r : Step) : ∀ (a b : List Nat) (p : Place), (visits r p a).Sublist (visits r p (a ++ b))
  | [], b, p => List.singleton_sublist.2 (visits_head r p b)
  | i :: a, b, p => by
    rw [List.cons_append, visits, visits]
    exact (visits_sub r a b _).cons_cons _
theorem found_cons {n : Nt} {c : Cch} {fr g ds : Int} {s : Trip} (h : s ∈ found n c fr g ds) : ∃ t, way n c fr g ds = some t := by
  unfold way
  cases hf : found n c fr g ds with
  | nil => rw [hf] at h; simp at h
  | cons x L => exact leastFrom_some L x
end Go.Proofs.YtpbjpochjagicaaGreat.Pl
namespace Go.Proofs.YtpbjpochjagicaaGreat
open Go.RowKit

theorem at_way {n : Pl.Nt} {c : Pl.Cch} {fr g ds : Int} {L : List (Option Pl.Trip)} (hck : Pl.check n = 0) (h0 : ((fr, g) : Pl.Place) ∈ Pl.spots) (hc : Pl.Cells n (Pl.stepB n c [] (-1)) (fr, g) n.tracks.length Pl.spots L)
    (hs : Pl.Still n (Pl.stepB n c [] (-1)) n.tracks.length Pl.spots L) (s0 : 0 ≤ ds) (s5 : ds ≤ 5) : Pl.atOf L ds = Pl.way n c fr g ds := by
  have hf := fine_spots (c := c) (reb := []) (but := -1) hck h0
  rw [Pl.stepB_all] at hf hc hs
  have hat := Pl.atTo_least L ds 3
  have hrun : ∀ l, Pl.RunOk n.tracks.length (Pl.run n c []) (fr, g) l → (Pl.endOf (Pl.run n c []) (fr, g) l).1 = ds → ∃ (j : Nat) (t : Pl.Trip), j < 3 ∧ L.getD (Pl.numOf (ds, (j : Int) + 1)) none = some t ∧ Pl.better (Pl.tripR n (Pl.run n c []) (fr, g) l) t = false := fun l hl he => by
    obtain ⟨t, h1, h2⟩ := hc.best hf hs l.length l rfl hl
    have hz := Pl.mem_spots.1 (hf.ends l _ h0 hl)
    generalize Pl.endOf (Pl.run n c []) (fr, g) l = z at h1 he hz
    obtain ⟨zs, zg⟩ := z
    simp only at he hz
    subst he
    refine ⟨(zg - 1).toNat, t, by omega, ?_, h2⟩
    rw [show (((zg - 1).toNat : Nat) : Int) + 1 = zg by omega, List.getD_eq_getElem?_getD, h1]
    rfl
  have hkm1 := hf.km
  have hkmpos : ∀ (b : List Nat) (p : Pl.Place), Pl.RunOk n.tracks.length (Pl.run n c []) p b → b ≠ [] → 1 ≤ Pl.kmOf n b := by
    intro b
    induction b with
    | nil => intro p _ h; exact absurd rfl h
    | cons i b ih =>
      intro p h _
      have h1 := hkm1 i h.1
      simp only [Pl.kmOf]
      cases b with
      | nil => simp only [Pl.kmOf]; omega
      | cons j b => have := ih _ h.2.2 (by simp); omega
  cases e : Pl.atOf L ds with
  | none =>
    cases ew : Pl.way n c fr g ds with
    | none => rfl
    | some t =>
      obtain ⟨l, _, h1, h2, _⟩ := Pl.way_run ew
      obtain ⟨j, u, hj, hL, _⟩ := hrun l h1 h2
      rw [hat.1 e j hj] at hL
      cases hL
  | some t0 =>
    obtain ⟨⟨j, hj, hL⟩, hmin⟩ := hat.2 t0 e
    have hsp : ((ds, (j : Int) + 1) : Pl.Place) ∈ Pl.spots := Pl.mem_spots.2 ⟨s0, s5, by show 1 ≤ (j : Int) + 1; omega, by show (j : Int) + 1 ≤ 3; omega⟩
    have hlt : Pl.numOf (ds, (j : Int) + 1) < L.length := by rw [hc.len]; exact hf.lt _ hsp
    rw [List.getD_eq_getElem?_getD, List.getElem?_eq_getElem hlt] at hL
    obtain ⟨l0, k1, k2, rfl, k4, _⟩ := hc.ok _ hsp t0 (by rw [List.getElem?_eq_getElem hlt]; exact congrArg some hL)
    obtain ⟨a, b, rfl, hg⟩ := Pl.prefix_good (ds := ds) l0 (fr, g) k1 (by rw [k2])
    have hnd : (Pl.visits (Pl.run n c []) (fr, g) a).Nodup := (Pl.visits_sub _ a b _).nodup k4
    have hra := (Pl.run_append a b (fr, g)).1 k1
    have hlen := Pl.length_le_of_nodup_subset _ Pl.spots hnd (hf.visit a _ h0 hra.1)
    rw [Pl.visits_length] at hlen
    have h24 := Pl.spots_length
    have hin := (Pl.found_iff n c fr g ds (Pl.tripR n (Pl.run n c []) (fr, g) a)).2 ⟨a, by omega, hg, hnd, rfl⟩
    obtain ⟨tw, hw⟩ := Pl.found_cons hin
    rw [hw]
    have hle := (Pl.leastFrom_least _ _ _ hw).2
    have h5 : Pl.better (Pl.tripR n (Pl.run n c []) (fr, g) (a ++ b)) tw = false := by
      refine Pl.better_neg_trans ?_ (hle _ hin)
      by_cases hb : b = []
      · subst hb; rw [List.append_nil]; exact Pl.better_self _
      · have h6 := hkmpos b _ hra.2 hb
        exact Pl.better_not.2 (.inl (by show Pl.kmOf n a < Pl.kmOf n (a ++ b); rw [Pl.km_append]; omega))
    have h7 : Pl.better tw (Pl.tripR n (Pl.run n c []) (fr, g) (a ++ b)) = false := by
      rcases Pl.leastFrom_mem _ _ _ hw with h | h
      · cases h
      · obtain ⟨lw, _, h1, h2, rfl⟩ := (Pl.found_iff n c fr g ds tw).1 h
        obtain ⟨j', t', hj', hL', hb'⟩ := hrun lw (Pl.good_run h1).1 (Pl.good_run h1).2
        exact Pl.better_neg_trans hb' (hmin j' t' hj' hL')
    rw [Pl.better_total h5 h7]
end Go.Proofs.YtpbjpochjagicaaGreat
