/- Words for memory: lists of integers that lie in memory; what a call keeps. Walks of the smallest functions. -/
import Derived.Test.YtpbjpochjagicaaPl
import Derived.WalkKit
import Derived.Below
import Derived.ProofKit
import Derived.Laws.OwnMore
import Derived.Deep.Draws
import Derived.Test.YtpbjpochjagicaaChecked
import Derived.LoopTactic
import Derived.WalkSpells
import Derived.WalkLawsBesides
import Derived.Outline
import Derived.Deep.QuietTactic
import Derived.BigQuiet
import Derived.BigGuardPart
import Derived.Deep.DeepCutAuto
import Derived.Lib.Hide
import Derived.Deep.LoopGhost
namespace Go.Proofs.Ytpbjpochjagicaa
open Go.RowKit

/-- A slice's address leads to these numbers, below block B; the address is asked for where there is an element alone. -/
def Ints (w : World) (B : Nat) (A : Option Addr) (xs : List Int) : Prop :=
  ∀ (k : Nat) (x : Int), xs[k]? = some x → ∃ b off, A = some ⟨b, off, none⟩ ∧ b < B ∧ w.cell? ⟨b, off + k, none⟩ = some (.int .i64 x)

/-- Blocks that are not in S are as they were. -/
structure Kept (S : Nat → Prop) (w w' : World) : Prop where
  os : w'.os = w.os
  tape : w'.tape = w.tape
  output : w'.output = w.output
  size : w.heap.size ≤ w'.heap.size
  block : ∀ k, k < w.heap.size → ¬ S k → w'.heap[k]? = w.heap[k]?

theorem Ints.nil (w : World) (B : Nat) (A : Option Addr) : Ints w B A [] := fun k x h => by simp at h
theorem Ints.cases {w : World} {B : Nat} {A : Option Addr} {xs : List Int} (h : Ints w B A xs) :
    xs = [] ∨ ∃ b off, A = some ⟨b, off, none⟩ ∧ b < B ∧ ∀ k x, xs[k]? = some x → w.cell? ⟨b, off + k, none⟩ = some (.int .i64 x) := by
  cases xs with
  | nil => exact .inl rfl
  | cons x l =>
    obtain ⟨b, off, hA, hb, _⟩ := h 0 x rfl
    refine .inr ⟨b, off, hA, hb, fun k y hk => ?_⟩
    obtain ⟨b', off', hA', _, hc⟩ := h k y hk
    rw [hA] at hA'
    injection hA' with hA'
    injection hA' with h1 h2
    subst h1 h2
    exact hc
theorem Ints.cell_at {w : World} {b off : Nat} {xs : List Int} (h : ∀ k x, xs[k]? = some x → w.cell? ⟨b, off + k, none⟩ = some (.int .i64 x)) {k : Nat} (hk : k < xs.length) :
    w.cell? ⟨b, off + k, none⟩ = some (.int .i64 xs[k]) := h k _ (List.getElem?_eq_getElem hk)
theorem Ints.keep {w w' : World} {B : Nat} {A : Option Addr} {xs : List Int} (h : Ints w B A xs) (hk : ∀ p : Addr, p.block < B → w'.cell? p = w.cell? p) : Ints w' B A xs := fun k x hx => by
  obtain ⟨b, off, hA, hb, hc⟩ := h k x hx
  exact ⟨b, off, hA, hb, (hk ⟨b, off + k, none⟩ hb).trans hc⟩
theorem Ints.more {w : World} {B B' : Nat} {A : Option Addr} {xs : List Int} (h : Ints w B A xs) (hB : B ≤ B') : Ints w B' A xs := fun k x hx => by
  obtain ⟨b, off, hA, hb, hc⟩ := h k x hx
  exact ⟨b, off, hA, by omega, hc⟩
theorem Ints.below {w w' : World} {B : Nat} {A : Option Addr} {xs : List Int} (h : Ints w B A xs) (hb : Below B w w') : Ints w' B A xs := h.keep fun _ hp => hb.cell hp
theorem Ints.alloc {w : World} {B : Nat} {A : Option Addr} {xs : List Int} (h : Ints w B A xs) (hB : B ≤ w.heap.size) (o : Obj) : Ints (w.alloc o) B A xs :=
  h.keep fun p hp => World.cell?_alloc_lt w o p (by omega)

/-- The cells of a line. -/
def trkCells (t : Pl.Trk) : List Value :=
  [.int .i64 t.a, .int .i64 t.b, .int .i64 t.km, .int .i64 t.gauge, .int .i64 t.room, .int .i64 t.brake, .int .i64 t.heat, .int .i64 t.load, .bool t.ferry]

/-- A slice's address leads to these lines, below block B. -/
def Trks (w : World) (B : Nat) (A : Option Addr) (ts : List Pl.Trk) : Prop :=
  ∀ (k : Nat) (t : Pl.Trk), ts[k]? = some t → ∃ b off, A = some ⟨b, off, none⟩ ∧ b < B ∧ ∀ j v, (trkCells t)[j]? = some v → w.cell? ⟨b, off + k * 9 + j, none⟩ = some v

theorem Trks.cases {w : World} {B : Nat} {A : Option Addr} {ts : List Pl.Trk} (h : Trks w B A ts) :
    ts = [] ∨ ∃ b off, A = some ⟨b, off, none⟩ ∧ b < B ∧ ∀ k t, ts[k]? = some t → ∀ j v, (trkCells t)[j]? = some v → w.cell? ⟨b, off + k * 9 + j, none⟩ = some v := by
  cases ts with
  | nil => exact .inl rfl
  | cons x l =>
    obtain ⟨b, off, hA, hb, _⟩ := h 0 x rfl
    refine .inr ⟨b, off, hA, hb, fun k y hk => ?_⟩
    obtain ⟨b', off', hA', _, hc⟩ := h k y hk
    rw [hA] at hA'
    injection hA' with hA'
    injection hA' with h1 h2
    subst h1 h2
    exact hc
theorem Trks.keep {w w' : World} {B : Nat} {A : Option Addr} {ts : List Pl.Trk} (h : Trks w B A ts) (hk : ∀ p : Addr, p.block < B → w'.cell? p = w.cell? p) : Trks w' B A ts := fun k x hx => by
  obtain ⟨b, off, hA, hb, hc⟩ := h k x hx
  exact ⟨b, off, hA, hb, fun j v hv => (hk ⟨b, off + k * 9 + j, none⟩ hb).trans (hc j v hv)⟩
theorem Trks.more {w : World} {B B' : Nat} {A : Option Addr} {ts : List Pl.Trk} (h : Trks w B A ts) (hB : B ≤ B') : Trks w B' A ts := fun k x hx => by
  obtain ⟨b, off, hA, hb, hc⟩ := h k x hx
  exact ⟨b, off, hA, by omega, hc⟩
theorem Trks.below {w w' : World} {B : Nat} {A : Option Addr} {ts : List Pl.Trk} (h : Trks w B A ts) (hb : Below B w w') : Trks w' B A ts := h.keep fun _ hp => hb.cell hp
theorem Trks.alloc {w : World} {B : Nat} {A : Option Addr} {ts : List Pl.Trk} (h : Trks w B A ts) (hB : B ≤ w.heap.size) (o : Obj) : Trks (w.alloc o) B A ts :=
  h.keep fun p hp => World.cell?_alloc_lt w o p (by omega)
end Go.Proofs.Ytpbjpochjagicaa

namespace Go.Proofs.Ytpbjpochjagicaa
open Go.RowKit

theorem out_any (n lo hi : Int) (w : World) : Calls Try.prog 81 #[.int .i64 n, .int .i64 lo, .int .i64 hi] w fun e w' => e = .returned (.bool (Pl.out n lo hi)) ∧ w = w' := by
  by_cases h1 : n < lo
  · have h : Pl.out n lo hi = true := by simp [Pl.out, h1]
    rw [h]; clear h
    go_enter Try.func81, Try.ntmps81
    go_wp2
    go_ret
    exact ⟨rfl, rfl⟩
  · by_cases h2 : hi < n
    · have h : Pl.out n lo hi = true := by simp [Pl.out, h2]
      rw [h]; clear h
      go_enter Try.func81, Try.ntmps81
      go_wp2
      go_ret
      exact ⟨rfl, rfl⟩
    · have h : Pl.out n lo hi = false := by simp [Pl.out, h1, h2]
      rw [h]; clear h
      go_enter Try.func81, Try.ntmps81
      go_wp2
      go_ret
      exact ⟨rfl, rfl⟩

theorem bits_nonneg (a b : Int) : 0 ≤ bits .xor .u64 a b := wrap_u64_nonneg _

set_option maxHeartbeats 400000 in
theorem next_any (a : Addr) (s : Int) (w : World) (hc : w.cell? a = some (.int .u64 s)) (hf : w.frozen? a = false) :
    Calls Try.prog 63 #[.pointer (some a)] w fun e w' => ∃ x s' n, e = .returned (.int .u64 x) ∧ 0 ≤ x ∧ w' = (w.setCell a (.int .u64 s')).drewN n := by
  go_enter Try.func63, Try.ntmps63
  go_wp2
  go_quiet (fail)
  go_wp2
  go_ret
  exact ⟨_, _, _, rfl, bits_nonneg _ _, rfl⟩

/-- What the number before place k is. -/
def before (xs : List Int) (k : Nat) : Option Int := if k = 0 then none else xs[k - 1]?
theorem before_succ (xs : List Int) (k : Nat) : before xs (k + 1) = xs[k]? := by simp [before]

set_option maxHeartbeats 400000 in
theorem rising_any (A : Option Addr) (c : Nat) (xs : List Int) (lo hi oe : Int) (B : Nat) (w : World) (hx : Ints w B A xs) (hl : xs.length ≤ 9223372036854775807) :
    Calls Try.prog 96 #[.slice A xs.length c, .int .i64 lo, .int .i64 hi, .int .i64 oe] w fun e w' => e = .returned (.int .i64 (Pl.rising xs lo hi oe)) ∧ w = w' := by
  have hx' : (∃ b off, A = some ⟨b, off, none⟩) ∨ xs = [] := by
    rcases hx.cases with h | ⟨b, off, h, _⟩
    · exact .inr h
    · exact .inl ⟨b, off, h⟩
  have hcell : ∀ b off, A = some ⟨b, off, none⟩ → ∀ k (hk : k < xs.length), w.cell? ⟨b, off + k, none⟩ = some (.int .i64 xs[k]) := by
    intro b off hA k hk
    obtain ⟨b', off', h, _, hc⟩ := hx k _ (List.getElem?_eq_getElem hk)
    rw [hA] at h
    injection h with h
    injection h with h1 h2
    subst h1 h2
    exact hc
  obtain ⟨b, off, rfl⟩ | rfl := hx'
  · have hc := hcell b off rfl
    clear hcell hx
    go_enter Try.func96, Try.ntmps96
    go_wp2
    go_loop [13] (fun i => ∃ k : Nat, k ≤ xs.length ∧ i = .int .i64 k ∧ Hid (Pl.rising xs lo hi oe = Pl.risingFrom lo hi oe (before xs k) (xs.drop k))) (fun i => xs.length - (intOf i).toNat)
    case atStart => exact ⟨0, Nat.zero_le _, rfl, rfl⟩
    case round =>
      obtain ⟨k, hk, rfl, hR⟩ := hrel
      by_cases hlt : k < xs.length
      · have hck := hc k hlt
        have hd : xs.drop k = xs[k] :: xs.drop (k + 1) := List.drop_eq_getElem_cons hlt
        have hb : before xs (k + 1) = some xs[k] := by rw [before_succ]; exact List.getElem?_eq_getElem hlt
        cases ho : Pl.out xs[k] lo hi
        · by_cases hk0 : ¬ 0 < k
          · have hN : Hid (Pl.rising xs lo hi oe = Pl.risingFrom lo hi oe (before xs (k + 1)) (xs.drop (k + 1))) := by
              have h0 : before xs k = none := by simp only [before]; rw [if_pos (by omega)]
              rw [hb]; refine hR.out.trans ?_; rw [hd, h0]; simp [Pl.risingFrom, ho]
            clear hd hb hR
            go_wp2_with (go_at_call 81; refine (out_any _ _ _ _).mono ?_; rintro e w' ⟨rfl, rfl⟩)
            go_round
            case rel => exact ⟨k + 1, by omega, by go_num, hN⟩
            case measure => simp [intOf]; omega
          · have hkm := hc (k - 1) (by omega)
            have hbk : before xs k = some xs[k - 1] := by simp only [before]; rw [if_neg (by omega)]; exact List.getElem?_eq_getElem _
            by_cases hle : xs[k] ≤ xs[k - 1]
            · have hN : Hid (Pl.rising xs lo hi oe = 5) := by
                refine hR.out.trans ?_; rw [hd, hbk]; simp [Pl.risingFrom, ho, hle]
              clear hd hb hR hbk
              go_wp2_with (go_at_call 81; refine (out_any _ _ _ _).mono ?_; rintro e w' ⟨rfl, rfl⟩)
              go_ret
              exact ⟨by rw [hN.out]; rfl, rfl⟩
            · have hN : Hid (Pl.rising xs lo hi oe = Pl.risingFrom lo hi oe (before xs (k + 1)) (xs.drop (k + 1))) := by
                rw [hb]; refine hR.out.trans ?_; rw [hd, hbk]; simp [Pl.risingFrom, ho, hle]
              clear hd hb hR hbk
              go_wp2_with (go_at_call 81; refine (out_any _ _ _ _).mono ?_; rintro e w' ⟨rfl, rfl⟩)
              go_round
              case rel => exact ⟨k + 1, by omega, by go_num, hN⟩
              case measure => simp [intOf]; omega
        · have hN : Hid (Pl.rising xs lo hi oe = oe) := by
            refine hR.out.trans ?_; rw [hd]; simp [Pl.risingFrom, ho]
          clear hd hb hR
          go_wp2_with (go_at_call 81; refine (out_any _ _ _ _).mono ?_; rintro e w' ⟨rfl, rfl⟩)
          go_ret
          exact ⟨by rw [hN.out]; rfl, rfl⟩
      · have hN : Hid (Pl.rising xs lo hi oe = 0) := by
          refine hR.out.trans ?_; rw [List.drop_eq_nil_of_le (by omega)]; simp [Pl.risingFrom]
        clear hR
        go_wp2
        go_ret
        exact ⟨by rw [hN.out]; rfl, rfl⟩
  · clear hcell hx
    go_enter Try.func96, Try.ntmps96
    go_wp2
    go_loop [13] (fun i => i = .int .i64 0) (fun i => 0)
    case atStart => rfl
    case round =>
      obtain rfl := hrel
      go_wp2
      go_ret
      exact ⟨rfl, rfl⟩
end Go.Proofs.Ytpbjpochjagicaa
