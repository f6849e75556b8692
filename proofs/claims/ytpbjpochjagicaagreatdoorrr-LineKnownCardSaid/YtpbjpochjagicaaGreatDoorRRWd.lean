/- Words for memory: lists of integers that lie in memory; what a call keeps. Walks of the smallest functions. Reading and appending slices: the guide's small lemmas (extra-words, sections 1 and 3), and their forms for slices of integers and of lines. -/
import Derived.Test.YtpbjpochjagicaaGreatDoorRRPl
import Derived.WalkKit
import Derived.Below
import Derived.ProofKit
import Derived.Laws.OwnMore
import Derived.Deep.Draws
import Derived.Test.YtpbjpochjagicaaGreatDoorRRChecked
import Derived.LoopTactic
import Derived.WalkSpells
import Derived.WalkLawsBesides
import Derived.Outline
import Derived.Deep.QuietTactic
import Derived.BigQuiet
import Derived.BigGuardPart
import Derived.Deep.DeepCutAuto
import Derived.Lib.Hide
import Derived.Deep.LoopGhost
import Derived.Deep.AppendLies
import Derived.Maps.AppendAt
import Derived.RegionTactic
import Derived.OwnWalk
namespace Go.Proofs.YtpbjpochjagicaaGreatDoorRR
open Go.RowKit

/-- A slice's address leads to these numbers, below block B; the address is asked for where there is an element alone. -/
def Ints (w : World) (B : Nat) (A : Option Addr) (xs : List Int) : Prop :=
  ∀ (k : Nat) (x : Int), xs[k]? = some x → ∃ b off, A = some ⟨b, off, none⟩ ∧ b < B ∧ w.cell? ⟨b, off + k, none⟩ = some (.int .i64 x)

/-- Blocks that are not in S are as they were. -/
structure Kept (S : Nat → Prop) (w w' : World) : Prop where
  os : w'.os = w.os
  tape : w'.tape = w.tape
  output : w'.output = w.output
  size : w.heap.size ≤ w'.heap.size
  block : ∀ k, k < w.heap.size → ¬ S k → w'.heap[k]? = w.heap[k]?

theorem Ints.nil (w : World) (B : Nat) (A : Option Addr) : Ints w B A [] := fun k x h => by simp at h
theorem Ints.cases {w : World} {B : Nat} {A : Option Addr} {xs : List Int} (h : Ints w B A xs) :
    xs = [] ∨ ∃ b off, A = some ⟨b, off, none⟩ ∧ b < B ∧ ∀ k x, xs[k]? = some x → w.cell? ⟨b, off + k, none⟩ = some (.int .i64 x) := by
  cases xs with
  | nil => exact .inl rfl
  | cons x l =>
    obtain ⟨b, off, hA, hb, _⟩ := h 0 x rfl
    refine .inr ⟨b, off, hA, hb, fun k y hk => ?_⟩
    obtain ⟨b', off', hA', _, hc⟩ := h k y hk
    rw [hA] at hA'
    injection hA' with hA'
    injection hA' with h1 h2
    subst h1 h2
    exact hc
theorem Ints.cell_at {w : World} {b off : Nat} {xs : List Int} (h : ∀ k x, xs[k]? = some x → w.cell? ⟨b, off + k, none⟩ = some (.int .i64 x)) {k : Nat} (hk : k < xs.length) :
    w.cell? ⟨b, off + k, none⟩ = some (.int .i64 xs[k]) := h k _ (List.getElem?_eq_getElem hk)
theorem Ints.keep {w w' : World} {B : Nat} {A : Option Addr} {xs : List Int} (h : Ints w B A xs) (hk : ∀ p : Addr, p.block < B → w'.cell? p = w.cell? p) : Ints w' B A xs := fun k x hx => by
  obtain ⟨b, off, hA, hb, hc⟩ := h k x hx
  exact ⟨b, off, hA, hb, (hk ⟨b, off + k, none⟩ hb).trans hc⟩
theorem Ints.more {w : World} {B B' : Nat} {A : Option Addr} {xs : List Int} (h : Ints w B A xs) (hB : B ≤ B') : Ints w B' A xs := fun k x hx => by
  obtain ⟨b, off, hA, hb, hc⟩ := h k x hx
  exact ⟨b, off, hA, by omega, hc⟩
theorem Ints.below {w w' : World} {B : Nat} {A : Option Addr} {xs : List Int} (h : Ints w B A xs) (hb : Below B w w') : Ints w' B A xs := h.keep fun _ hp => hb.cell hp
theorem Ints.alloc {w : World} {B : Nat} {A : Option Addr} {xs : List Int} (h : Ints w B A xs) (hB : B ≤ w.heap.size) (o : Obj) : Ints (w.alloc o) B A xs :=
  h.keep fun p hp => World.cell?_alloc_lt w o p (by omega)

/-- The cells of a line. -/
def trkCells (t : Pl.Trk) : List Value :=
  [.int .i64 t.a, .int .i64 t.b, .int .i64 t.km, .int .i64 t.gauge, .int .i64 t.room, .int .i64 t.brake, .int .i64 t.heat, .int .i64 t.load, .bool t.ferry]

/-- A slice's address leads to these lines, below block B. -/
def Trks (w : World) (B : Nat) (A : Option Addr) (ts : List Pl.Trk) : Prop :=
  ∀ (k : Nat) (t : Pl.Trk), ts[k]? = some t → ∃ b off, A = some ⟨b, off, none⟩ ∧ b < B ∧ ∀ j v, (trkCells t)[j]? = some v → w.cell? ⟨b, off + k * 9 + j, none⟩ = some v

theorem Trks.cases {w : World} {B : Nat} {A : Option Addr} {ts : List Pl.Trk} (h : Trks w B A ts) :
    ts = [] ∨ ∃ b off, A = some ⟨b, off, none⟩ ∧ b < B ∧ ∀ k t, ts[k]? = some t → ∀ j v, (trkCells t)[j]? = some v → w.cell? ⟨b, off + k * 9 + j, none⟩ = some v := by
  cases ts with
  | nil => exact .inl rfl
  | cons x l =>
    obtain ⟨b, off, hA, hb, _⟩ := h 0 x rfl
    refine .inr ⟨b, off, hA, hb, fun k y hk => ?_⟩
    obtain ⟨b', off', hA', _, hc⟩ := h k y hk
    rw [hA] at hA'
    injection hA' with hA'
    injection hA' with h1 h2
    subst h1 h2
    exact hc
theorem Trks.keep {w w' : World} {B : Nat} {A : Option Addr} {ts : List Pl.Trk} (h : Trks w B A ts) (hk : ∀ p : Addr, p.block < B → w'.cell? p = w.cell? p) : Trks w' B A ts := fun k x hx => by
  obtain ⟨b, off, hA, hb, hc⟩ := h k x hx
  exact ⟨b, off, hA, hb, fun j v hv => (hk ⟨b, off + k * 9 + j, none⟩ hb).trans (hc j v hv)⟩
theorem Trks.more {w : World} {B B' : Nat} {A : Option Addr} {ts : List Pl.Trk} (h : Trks w B A ts) (hB : B ≤ B') : Trks w B' A ts := fun k x hx => by
  obtain ⟨b, off, hA, hb, hc⟩ := h k x hx
  exact ⟨b, off, hA, by omega, hc⟩
theorem Trks.below {w w' : World} {B : Nat} {A : Option Addr} {ts : List Pl.Trk} (h : Trks w B A ts) (hb : Below B w w') : Trks w' B A ts := h.keep fun _ hp => hb.cell hp
theorem Trks.alloc {w : World} {B : Nat} {A : Option Addr} {ts : List Pl.Trk} (h : Trks w B A ts) (hB : B ≤ w.heap.size) (o : Obj) : Trks (w.alloc o) B A ts :=
  h.keep fun p hp => World.cell?_alloc_lt w o p (by omega)
end Go.Proofs.YtpbjpochjagicaaGreatDoorRR

namespace Go.Proofs.YtpbjpochjagicaaGreatDoorRR
open Go.RowKit

theorem out_any (n lo hi : Int) (w : World) : Calls Tryz.prog 22 #[.int .i64 n, .int .i64 lo, .int .i64 hi] w fun e w' => e = .returned (.bool (Pl.out n lo hi)) ∧ w = w' := by
  by_cases h1 : n < lo
  · have h : Pl.out n lo hi = true := by simp [Pl.out, h1]
    rw [h]; clear h
    go_enter Tryz.func22, Tryz.ntmps22
    go_wp2
    go_ret
    exact ⟨rfl, rfl⟩
  · by_cases h2 : hi < n
    · have h : Pl.out n lo hi = true := by simp [Pl.out, h2]
      rw [h]; clear h
      go_enter Tryz.func22, Tryz.ntmps22
      go_wp2
      go_ret
      exact ⟨rfl, rfl⟩
    · have h : Pl.out n lo hi = false := by simp [Pl.out, h1, h2]
      rw [h]; clear h
      go_enter Tryz.func22, Tryz.ntmps22
      go_wp2
      go_ret
      exact ⟨rfl, rfl⟩

theorem bits_nonneg (a b : Int) : 0 ≤ bits .xor .u64 a b := wrap_u64_nonneg _

/-- What the number before place k is. -/
def before (xs : List Int) (k : Nat) : Option Int := if k = 0 then none else xs[k - 1]?
theorem before_succ (xs : List Int) (k : Nat) : before xs (k + 1) = xs[k]? := by simp [before]

set_option maxHeartbeats 400000 in
theorem rising_any (A : Option Addr) (c : Nat) (xs : List Int) (lo hi oe : Int) (B : Nat) (w : World) (hx : Ints w B A xs) (hl : xs.length ≤ 9223372036854775807) :
    Calls Tryz.prog 23 #[.slice A xs.length c, .int .i64 lo, .int .i64 hi, .int .i64 oe] w fun e w' => e = .returned (.int .i64 (Pl.rising xs lo hi oe)) ∧ w = w' := by
  have hx' : (∃ b off, A = some ⟨b, off, none⟩) ∨ xs = [] := by
    rcases hx.cases with h | ⟨b, off, h, _⟩
    · exact .inr h
    · exact .inl ⟨b, off, h⟩
  have hcell : ∀ b off, A = some ⟨b, off, none⟩ → ∀ k (hk : k < xs.length), w.cell? ⟨b, off + k, none⟩ = some (.int .i64 xs[k]) := by
    intro b off hA k hk
    obtain ⟨b', off', h, _, hc⟩ := hx k _ (List.getElem?_eq_getElem hk)
    rw [hA] at h
    injection h with h
    injection h with h1 h2
    subst h1 h2
    exact hc
  obtain ⟨b, off, rfl⟩ | rfl := hx'
  · have hc := hcell b off rfl
    clear hcell hx
    go_enter Tryz.func23, Tryz.ntmps23
    go_wp2
    go_loop [13] (fun i => ∃ k : Nat, k ≤ xs.length ∧ i = .int .i64 k ∧ Hid (Pl.rising xs lo hi oe = Pl.risingFrom lo hi oe (before xs k) (xs.drop k))) (fun i => xs.length - (intOf i).toNat)
    case atStart => exact ⟨0, Nat.zero_le _, rfl, rfl⟩
    case round =>
      obtain ⟨k, hk, rfl, hR⟩ := hrel
      by_cases hlt : k < xs.length
      · have hck := hc k hlt
        have hd : xs.drop k = xs[k] :: xs.drop (k + 1) := List.drop_eq_getElem_cons hlt
        have hb : before xs (k + 1) = some xs[k] := by rw [before_succ]; exact List.getElem?_eq_getElem hlt
        cases ho : Pl.out xs[k] lo hi
        · by_cases hk0 : ¬ 0 < k
          · have hN : Hid (Pl.rising xs lo hi oe = Pl.risingFrom lo hi oe (before xs (k + 1)) (xs.drop (k + 1))) := by
              have h0 : before xs k = none := by simp only [before]; rw [if_pos (by omega)]
              rw [hb]; refine hR.out.trans ?_; rw [hd, h0]; simp [Pl.risingFrom, ho]
            clear hd hb hR
            go_wp2_with (go_at_call 22; refine (out_any _ _ _ _).mono ?_; rintro e w' ⟨rfl, rfl⟩)
            go_round
            case rel => exact ⟨k + 1, by omega, by go_num, hN⟩
            case measure => simp [intOf]; omega
          · have hkm := hc (k - 1) (by omega)
            have hbk : before xs k = some xs[k - 1] := by simp only [before]; rw [if_neg (by omega)]; exact List.getElem?_eq_getElem _
            by_cases hle : xs[k] ≤ xs[k - 1]
            · have hN : Hid (Pl.rising xs lo hi oe = 5) := by
                refine hR.out.trans ?_; rw [hd, hbk]; simp [Pl.risingFrom, ho, hle]
              clear hd hb hR hbk
              go_wp2_with (go_at_call 22; refine (out_any _ _ _ _).mono ?_; rintro e w' ⟨rfl, rfl⟩)
              go_ret
              exact ⟨by rw [hN.out]; rfl, rfl⟩
            · have hN : Hid (Pl.rising xs lo hi oe = Pl.risingFrom lo hi oe (before xs (k + 1)) (xs.drop (k + 1))) := by
                rw [hb]; refine hR.out.trans ?_; rw [hd, hbk]; simp [Pl.risingFrom, ho, hle]
              clear hd hb hR hbk
              go_wp2_with (go_at_call 22; refine (out_any _ _ _ _).mono ?_; rintro e w' ⟨rfl, rfl⟩)
              go_round
              case rel => exact ⟨k + 1, by omega, by go_num, hN⟩
              case measure => simp [intOf]; omega
        · have hN : Hid (Pl.rising xs lo hi oe = oe) := by
            refine hR.out.trans ?_; rw [hd]; simp [Pl.risingFrom, ho]
          clear hd hb hR
          go_wp2_with (go_at_call 22; refine (out_any _ _ _ _).mono ?_; rintro e w' ⟨rfl, rfl⟩)
          go_ret
          exact ⟨by rw [hN.out]; rfl, rfl⟩
      · have hN : Hid (Pl.rising xs lo hi oe = 0) := by
          refine hR.out.trans ?_; rw [List.drop_eq_nil_of_le (by omega)]; simp [Pl.risingFrom]
        clear hR
        go_wp2
        go_ret
        exact ⟨by rw [hN.out]; rfl, rfl⟩
  · clear hcell hx
    go_enter Tryz.func23, Tryz.ntmps23
    go_wp2
    go_loop [13] (fun i => i = .int .i64 0) (fun i => 0)
    case atStart => rfl
    case round =>
      obtain rfl := hrel
      go_wp2
      go_ret
      exact ⟨rfl, rfl⟩
end Go.Proofs.YtpbjpochjagicaaGreatDoorRR

namespace Go.Proofs.YtpbjpochjagicaaGreatDoorRR
open Go.RowKit

theorem block_of_add (a : Addr) (n : Nat) : (a.add n).block = a.block := by unfold Addr.add; split <;> rfl
theorem add_of_add (a : Addr) (i j : Nat) : (a.add i).add j = a.add (i + j) := by
  unfold Addr.add
  by_cases hi : i = 0 <;> by_cases hj : j = 0 <;> simp [hi, hj, Nat.add_assoc]

def Reads (w : World) (B size : Nat) (A : Option Addr) (n : Nat) (xs : List Value) : Prop :=
  xs.length = n * size ∧ (0 < n → ∃ ad, A = some ad ∧ ad.block < B ∧ ∀ j u, xs[j]? = some u → w.cell? (ad.add j) = some u)

section
variable {w w' : World} {B B' size n : Nat} {A : Option Addr} {xs : List Value}
theorem Reads.none_ : Reads w B size A 0 [] := ⟨by simp, fun h => absurd h (by omega)⟩
theorem Reads.at_ {k : Nat} (h : Reads w B 1 A n xs) (hk : k < n) : ∃ ad u, A = some ad ∧ ad.block < B ∧ xs[k]? = some u ∧ w.cell? (ad.add k) = some u := by
  obtain ⟨ad, e, hb, hc⟩ := h.2 (by omega)
  have hl : k < xs.length := by have := h.1; omega
  exact ⟨ad, xs[k], e, hb, List.getElem?_eq_getElem hl, hc k _ (List.getElem?_eq_getElem hl)⟩
theorem Reads.keep (h : Reads w B size A n xs) (hk : ∀ p : Addr, p.block < B → w'.cell? p = w.cell? p) : Reads w' B size A n xs :=
  ⟨h.1, fun hn => by
    obtain ⟨ad, e, hb, hc⟩ := h.2 hn
    exact ⟨ad, e, hb, fun j u hu => (hk _ (by rw [block_of_add]; exact hb)).trans (hc j u hu)⟩⟩
theorem Reads.more (h : Reads w B size A n xs) (hB : B ≤ B') : Reads w B' size A n xs :=
  ⟨h.1, fun hn => by
    obtain ⟨ad, e, hb, hc⟩ := h.2 hn
    exact ⟨ad, e, by omega, hc⟩⟩
theorem Reads.below (h : Reads w B size A n xs) (hb : Below B w w') : Reads w' B size A n xs := h.keep fun _ hp => hb.cell hp
theorem Reads.drew (h : Reads w B size A n xs) : Reads w.drew B size A n xs := h
theorem Reads.drewN (h : Reads w B size A n xs) (k : Nat) : Reads (w.drewN k) B size A n xs := h
theorem Reads.alloc (h : Reads w B size A n xs) (hB : B ≤ w.heap.size) (o : Obj) : Reads (w.alloc o) B size A n xs := h.keep fun p hp => World.cell?_alloc_lt w o p (by omega)
theorem Reads.setCell (h : Reads w B size A n xs) {p : Addr} (hB : B ≤ p.block) (u : Value) : Reads (w.setCell p u) B size A n xs :=
  h.keep fun q hq => World.cell?_setCell_other w p q u (fun e => by subst e; omega)
theorem Reads.grown (h : Reads w B size A n xs) {row : Option Nat} (hg : w.grownBy w' row) (hB : B ≤ w.heap.size) (hr : ∀ g, row = some g → B ≤ g) : Reads w' B size A n xs :=
  h.keep fun p hp => World.cell?_of_block (hg.block p.block (by omega) (fun e => by have := hr _ e.symm; omega))
theorem Reads.cut (h : Reads w B size A n xs) {k cap : Nat} (hk : k ≤ n) (hc : n ≤ cap) :
    Reads w B size (if cap = k then A else A.map (·.add (k * size))) (n - k) (xs.drop (k * size)) := by
  refine ⟨by rw [List.length_drop, h.1, Nat.sub_mul], fun hn => ?_⟩
  obtain ⟨ad, rfl, hb, hcell⟩ := h.2 (by omega)
  rw [if_neg (by omega)]
  refine ⟨ad.add (k * size), rfl, by rw [block_of_add]; exact hb, fun j u hu => ?_⟩
  rw [add_of_add]
  exact hcell _ u (by rw [← hu, List.getElem?_drop])
theorem Reads.of_own {base : Nat} {e : TypeId} {c : Nat} (h : w.ownsRow base e size (.slice A n c) n xs) : Reads w w.heap.size size A n xs := by
  refine ⟨h.1, fun hn => ?_⟩
  obtain ⟨g, cap, hv, _, hlt⟩ := h.form hn
  have hA : A = some ⟨g, 0, none⟩ := by injection hv
  subst hA
  exact ⟨_, rfl, hlt, h.cells (g := g) rfl⟩
end

section
variable {P : Program} (w : World)

theorem run_append_of_nil (base : Nat) (t ty e : TypeId) (i : TypeInfo) (size : Nat) (ht : P.underlying t = some (.slice e)) (hi : P.info? e = some i)
    (v : Value) (n : Nat) (xs : List Value) (hown : w.ownsRow base e size v n xs) (c : Nat) : (Builtin.append_ #[t, t] ty #[v, .slice none 0 c]).run P w = .ok v w := by
  rcases hown.2 with ⟨rfl, rfl⟩ | ⟨g, cap, cur, rfl, _, _, hnc, _⟩
  · simp [Builtin.append_, run_underlying ht, sizeOf, typeInfo, hi, Builtin.lenOf, Builtin.firstCells]
  · simp [Builtin.append_, run_underlying ht, sizeOf, typeInfo, hi, Builtin.lenOf, Builtin.firstCells, hnc, storeCells]

theorem run_append_any (base : Nat) (t ty e : TypeId) (i : TypeInfo) (z : Value) (size bytes : Nat) (ht : P.underlying t = some (.slice e)) (hi : P.info? e = some i) (hz : i.zero = some z)
    (hsize : i.size = size) (hby : i.bytes = bytes) (hzs : z.cells.size = size) (hsz : 0 < size)
    (v : Value) (n : Nat) (xs : List Value) (hown : w.ownsRow base e size v n xs)
    (B : Nat) (A : Option Addr) (m c : Nat) (news : List Value) (hr : Reads w B size A m news) (h1 : ∀ u ∈ news, u.oneCell' = true)
    (h63 : n + m ≤ maxLen) (hbytes : (n + m) * bytes ≤ 140737488355328) (hbase : base ≤ w.heap.size) :
    ∃ v' w', (Builtin.append_ #[t, t] ty #[v, .slice A m c]).run P w = .ok v' w' ∧ w'.ownsRow base e size v' (n + m) (xs ++ news) ∧ w.grownBy w' v.ownBlock ∧
      (v'.ownBlock = v.ownBlock ∨ v'.ownBlock = some w.heap.size) := by
  rcases A with _ | ad
  · have hm : m = 0 := by
      rcases Nat.eq_zero_or_pos m with h0 | h0
      · exact h0
      · obtain ⟨ad, h, _⟩ := hr.2 h0
        cases h
    subst hm
    have hn : news = [] := List.eq_nil_of_length_eq_zero (by simpa using hr.1)
    subst hn
    exact ⟨v, w, run_append_of_nil w base t ty e i size ht hi v n xs hown c, by simpa using hown, World.grownBy.refl w _, .inl rfl⟩
  · have hcells : ∀ j u, news[j]? = some u → w.cell? (ad.add j) = some u := by
      intro j u hu
      rcases Nat.eq_zero_or_pos m with h0 | h0
      · subst h0
        have hn : news = [] := List.eq_nil_of_length_eq_zero (by simpa using hr.1)
        subst hn
        simp at hu
      · obtain ⟨ad', h, _, hc⟩ := hr.2 h0
        injection h with h
        subst h
        exact hc j u hu
    obtain ⟨v', w', hrun, h2, h3, _, h5⟩ := run_append_own_at (P := P) w base t ty e i z size bytes ht hi hz hsize hby hzs hsz v n xs hown ad m c news hr.1 hcells h1 h63 hbytes hbase
    exact ⟨v', w', hrun, h2, h3, h5⟩

theorem wp_append_any {o : Oper} {a : Act} {K : Act → World → Prop} {Q : Exit → Act → World → Prop} (s x : Operand) (t : TypeId)
    (ho : o.op = .call { callee := .builtin .append, args := #[s, x], argTypes := #[t, t] })
    (base : Nat) (e : TypeId) (i : TypeInfo) (z : Value) (size bytes : Nat) (ht : P.underlying t = some (.slice e)) (hi : P.info? e = some i) (hz : i.zero = some z)
    (hsize : i.size = size) (hby : i.bytes = bytes) (hzs : z.cells.size = size) (hsz : 0 < size)
    (v : Value) (n : Nat) (xs : List Value) (hs : a.eval s = v) (hown : w.ownsRow base e size v n xs)
    (B : Nat) (A : Option Addr) (m c : Nat) (news : List Value) (hx : a.eval x = .slice A m c) (hr : Reads w B size A m news) (h1 : ∀ u ∈ news, u.oneCell' = true)
    (h63 : n + m ≤ maxLen) (hbytes : (n + m) * bytes ≤ 140737488355328) (hbase : base ≤ w.heap.size)
    (h : ∀ v' w', w'.ownsRow base e size v' (n + m) (xs ++ news) → w.grownBy w' v.ownBlock → (v'.ownBlock = v.ownBlock ∨ v'.ownBlock = some w.heap.size) → K (a.put o.dst v') w') : o.wp P a w K Q := by
  obtain ⟨v', w', hrun, h2, h3, h4⟩ := run_append_any (P := P) w base t o.type e i z size bytes ht hi hz hsize hby hzs hsz v n xs hown B A m c news hr h1 h63 hbytes hbase
  unfold Oper.wp execOp
  simp only [ho, resolve, invoke, builtin, Sem.run_bind, Sem.run_pure, Result.andThen_ok, List.map_toArray, List.map_cons, List.map_nil, hs, hx, hrun]
  exact h v' w' h2 h3 h4

theorem wpList_append_any {ops : Array Oper} {rest : List Oper} {o : Oper} {a : Act} {Q : Exit → Act → World → Prop} (hgd : o.guard = none) (s x : Operand) (t : TypeId)
    (ho : o.op = .call { callee := .builtin .append, args := #[s, x], argTypes := #[t, t] })
    (base : Nat) (e : TypeId) (i : TypeInfo) (z : Value) (size bytes : Nat) (ht : P.underlying t = some (.slice e)) (hi : P.info? e = some i) (hz : i.zero = some z)
    (hsize : i.size = size) (hby : i.bytes = bytes) (hzs : z.cells.size = size) (hsz : 0 < size)
    (v : Value) (n : Nat) (xs : List Value) (hs : a.eval s = v) (hown : w.ownsRow base e size v n xs)
    (B : Nat) (A : Option Addr) (m c : Nat) (news : List Value) (hx : a.eval x = .slice A m c) (hr : Reads w B size A m news) (h1 : ∀ u ∈ news, u.oneCell' = true)
    (h63 : n + m ≤ maxLen) (hbytes : (n + m) * bytes ≤ 140737488355328) (hbase : base ≤ w.heap.size)
    (h : ∀ v' w', w'.ownsRow base e size v' (n + m) (xs ++ news) → w.grownBy w' v.ownBlock → (v'.ownBlock = v.ownBlock ∨ v'.ownBlock = some w.heap.size) → wpList P ops Q rest (a.put o.dst v') w') : wpList P ops Q (o :: rest) a w :=
  wpList_plain hgd fun _ hK => wp_append_any w s x t ho base e i z size bytes ht hi hz hsize hby hzs hsz v n xs hs hown B A m c news hx hr h1 h63 hbytes hbase fun v' w' h2 h3 h4 => hK _ _ (h v' w' h2 h3 h4)

theorem step_append_any {ops : Array Oper} {o : Oper} {a : Act} {K : Act → World → Prop} {Q : Exit → Act → World → Prop} {E : Prop} (hgd : o.guard = none) (s x : Operand) (t : TypeId)
    (ho : o.op = .call { callee := .builtin .append, args := #[s, x], argTypes := #[t, t] })
    (base : Nat) (e : TypeId) (i : TypeInfo) (z : Value) (size bytes : Nat) (ht : P.underlying t = some (.slice e)) (hi : P.info? e = some i) (hz : i.zero = some z)
    (hsize : i.size = size) (hby : i.bytes = bytes) (hzs : z.cells.size = size) (hsz : 0 < size)
    (v : Value) (n : Nat) (xs : List Value) (hs : a.eval s = v) (hown : w.ownsRow base e size v n xs)
    (B : Nat) (A : Option Addr) (m c : Nat) (news : List Value) (hx : a.eval x = .slice A m c) (hr : Reads w B size A m news) (h1 : ∀ u ∈ news, u.oneCell' = true)
    (h63 : n + m ≤ maxLen) (hbytes : (n + m) * bytes ≤ 140737488355328) (hbase : base ≤ w.heap.size)
    (h : ∀ v' w', w'.ownsRow base e size v' (n + m) (xs ++ news) → w.grownBy w' v.ownBlock → (v'.ownBlock = v.ownBlock ∨ v'.ownBlock = some w.heap.size) → K (a.put o.dst v') w') :
    if Region.wanted o (yielded ops a.tmps) = true then Oper.wp P o a w K Q else E := by
  have hw : Region.wanted o (yielded ops a.tmps) = true := by simp [Region.wanted, hgd]
  rw [if_pos hw]
  exact wp_append_any w s x t ho base e i z size bytes ht hi hz hsize hby hzs hsz v n xs hs hown B A m c news hx hr h1 h63 hbytes hbase h
end

theorem Ints.reads {w : World} {B : Nat} {A : Option Addr} {xs : List Int} (h : Ints w B A xs) : Reads w B 1 A xs.length (xs.map (Value.int .i64)) := by
  refine ⟨by simp, fun hn => ?_⟩
  rcases h.cases with rfl | ⟨b, off, hA, hb, hc⟩
  · simp at hn
  · refine ⟨⟨b, off, none⟩, hA, hb, fun j u hu => ?_⟩
    rw [List.getElem?_map] at hu
    cases hx : xs[j]? with
    | none => rw [hx] at hu; simp at hu
    | some x =>
      rw [hx] at hu
      simp at hu
      subst hu
      have := hc j x hx
      unfold Addr.add
      split
      · rename_i h0; subst h0; simpa using this
      · exact this
theorem Ints.of_reads {w : World} {B : Nat} {A : Option Addr} {n : Nat} {xs : List Int} (h : Reads w B 1 A n (xs.map (Value.int .i64))) : Ints w B A xs := fun k x hx => by
  have hlen : xs.length = n := by have := h.1; simpa using this
  have hk : k < xs.length := (List.getElem?_eq_some_iff.1 hx).1
  obtain ⟨ad, hA, hb, hc⟩ := h.2 (by omega)
  have h0 := hc k (.int .i64 x) (by rw [List.getElem?_map, hx]; rfl)
  obtain ⟨b, off, sp⟩ := ad
  have hs : sp = none := by
    have := hc 0 (.int .i64 xs[0]) (by rw [List.getElem?_map, List.getElem?_eq_getElem (by omega)]; rfl)
    simpa [Addr.add] using World.cell?_spot this
  subst hs
  refine ⟨b, off, hA, hb, ?_⟩
  unfold Addr.add at h0
  split at h0
  · rename_i hk0; subst hk0; simpa using h0
  · exact h0

/-- An own row of integers: xs. -/
def OwnInts (w : World) (base : Nat) (A : Option Addr) (c : Nat) (xs : List Int) : Prop := w.ownsRow base 3 1 (.slice A xs.length c) xs.length (xs.map (Value.int .i64))
theorem OwnInts.ints {w : World} {base : Nat} {A : Option Addr} {c : Nat} {xs : List Int} (h : OwnInts w base A c xs) : Ints w w.heap.size A xs := Ints.of_reads (Reads.of_own h)
theorem OwnInts.nil (w : World) (base : Nat) : OwnInts w base none 0 [] := ⟨by simp, .inl ⟨rfl, rfl⟩⟩
theorem OwnInts.out {w : World} {base : Nat} {A : Option Addr} {c : Nat} {xs : List Int} (h : OwnInts w base A c xs) : w.ownsRow base 3 1 (.slice A xs.length c) xs.length (xs.map (Value.int .i64)) := h

theorem own_slice {w : World} {base e size n : Nat} {v : Value} {xs : List Value} (h : w.ownsRow base e size v n xs) : ∃ A c, v = .slice A n c := by
  rcases h.2 with ⟨rfl, rfl⟩ | ⟨g, cap, cur, rfl, _⟩
  · exact ⟨none, 0, rfl⟩
  · exact ⟨_, _, rfl⟩

theorem ownBlock_slice (A : Option Addr) (n c : Nat) : (Value.slice A n c).ownBlock = A.map (·.block) := by cases A <;> rfl

/-- 'append(s, x...)' of integers onto an own row. -/
theorem wpl_app_ints {P : Program} {w : World} {ops : Array Oper} {rest : List Oper} {o : Oper} {a : Act} {Q : Exit → Act → World → Prop} (hgd : o.guard = none) (s x : Operand) (t : TypeId)
    (ho : o.op = .call { callee := .builtin .append, args := #[s, x], argTypes := #[t, t] })
    (base : Nat) (ht : P.underlying t = some (.slice 3)) (hi : (P.info? 3).map (fun i => (i.zero, i.size, i.bytes)) = some (some (.int .i64 0), 1, 8))
    (A : Option Addr) (c : Nat) (xs : List Int) (hs : a.eval s = .slice A xs.length c) (hown : OwnInts w base A c xs)
    (B : Nat) (A' : Option Addr) (c' : Nat) (ys : List Int) (hx : a.eval x = .slice A' ys.length c') (hr : Ints w B A' ys)
    (hlen : (xs.length + ys.length) * 8 ≤ 140737488355328) (hbase : base ≤ w.heap.size)
    (h : ∀ A2 c2 w', OwnInts w' base A2 c2 (xs ++ ys) → w.grownBy w' (Value.slice A xs.length c).ownBlock → (A2.map (·.block) = A.map (·.block) ∨ A2.map (·.block) = some w.heap.size) →
      wpList P ops Q rest (a.put o.dst (.slice A2 (xs ++ ys).length c2)) w') : wpList P ops Q (o :: rest) a w := by
  obtain ⟨i, h1, h2, h3, h4⟩ := info_parts hi
  refine wpList_append_any w hgd s x t ho base 3 i (.int .i64 0) 1 8 ht h1 h2 h3 h4 rfl (by omega) (.slice A xs.length c) xs.length (xs.map (Value.int .i64)) hs hown B A' ys.length c' (ys.map (Value.int .i64)) hx hr.reads
    (fun u hu => by simp at hu; obtain ⟨n, _, rfl⟩ := hu; rfl) (by simp only [maxLen]; omega) (by omega) hbase ?_
  intro v' w' hown' hg hat
  obtain ⟨A2, c2, rfl⟩ := own_slice hown'
  rw [← List.map_append] at hown'
  have hl : xs.length + ys.length = (xs ++ ys).length := by simp
  rw [hl] at hown' ⊢
  refine h A2 c2 w' hown' hg ?_
  rwa [ownBlock_slice, ownBlock_slice] at hat
end Go.Proofs.YtpbjpochjagicaaGreatDoorRR
