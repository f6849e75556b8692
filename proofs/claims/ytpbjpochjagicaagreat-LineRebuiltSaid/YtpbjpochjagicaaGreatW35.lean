/- Walks: a bag is filled. Walks: some of the numbers. -/
import Derived.Test.YtpbjpochjagicaaGreatW14
import Derived.RegionTactic
import Derived.ChangeAlike
import Derived.Test.YtpbjpochjagicaaGreatW7
namespace Go.Proofs.YtpbjpochjagicaaGreat
open Go.RowKit

theorem BagAt.put {w : World} {g : Nat} (h : BagAt w g) (s : Int) : BagAt (w.setCell ⟨g, 0, none⟩ (.int .u64 s)) g := by
  obtain ⟨s0, hb⟩ := h
  refine ⟨s, ?_⟩
  simp [World.setCell, Array.getElem?_modify, hb]

/-- What NewBag hands back: a bag in a new block. -/
def BagPost (w : World) (e : Ending) (w' : World) : Prop := ∃ g, e = .returned (.pointer (some ⟨g, 0, none⟩)) ∧ w.heap.size ≤ g ∧ BagAt w' g ∧ Below w.heap.size w w'

set_option maxRecDepth 20000 in
set_option maxHeartbeats 1000000 in
theorem newBag_any (A : Option Addr) (c : Nat) (xs : List Int) (w : World) (hx : Ints w w.heap.size A xs) (hl : xs.length ≤ 9223372036854775807) :
    Calls Tryz.prog 10 #[.slice A xs.length c] w (BagPost w) := by
  have hX := Lib.hid hx
  clear hx
  go_enter Tryz.func10, Tryz.ntmps10
  go_wp2_with fail
  go_loopw [4] (fun i wr => ∃ k : Nat, k ≤ xs.length ∧ i = .int .i64 k ∧ BagAt wr w.heap.size ∧ Below w.heap.size w wr) (fun i _ => xs.length - (intOf i).toNat)
  case atStart => exact ⟨0, by omega, rfl, ⟨_, heap_alloc_new w _⟩, (Below.refl _ _).alloc (Nat.le_refl _) _⟩
  case round =>
    obtain ⟨k, hk, rfl, hB, hb⟩ := hrel
    by_cases hlt : k < xs.length
    · obtain ⟨s, hcs, hcf⟩ := hB.cell
      obtain ⟨b, off, hA, hbb, hcx⟩ := hX.out k xs[k] (List.getElem?_eq_getElem hlt)
      have hcx' := (hb.cell (p := ⟨b, off + k, none⟩) hbb).trans hcx
      have hki : (k : Int) < (xs.length : Int) := by omega
      have hne : b ≠ w.heap.size := by omega
      generalize xs[k] = x at hcx hcx'
      clear hcx
      subst hA
      go_wp2_with fail
      refine wp_region_still_tail 14 (by kernel_rfl) (by kernel_rfl) ?_
      simp only [List.take_succ_cons, List.take_zero, List.drop_succ_cons, List.drop_zero]
      change wpStill _ _ (World.drew _) (fun a' => wpList _ _ _ _ a' (World.drew _)) _ _
      repeat still_step
      refine wpStill_nil ?_
      go_wp2_with fail
      refine wp_region_still_tail 13 (by kernel_rfl) (by kernel_rfl) ?_
      simp only [List.take_succ_cons, List.take_zero, List.drop_succ_cons, List.drop_zero]
      change wpStill _ _ (World.drew _) (fun a' => wpList _ _ _ _ a' (World.drew _)) _ _
      repeat still_step
      refine wpStill_nil ?_
      go_wp2_with fail
      exact ⟨⟨k + 1, by omega, by simp, (((hB.put _).put _).drew).drew, ((((hb.setCell (p := ⟨w.heap.size, 0, none⟩) (Nat.le_refl _) _).setCell (p := ⟨w.heap.size, 0, none⟩) (Nat.le_refl _) _).drew).drew)⟩, by simp only [intOf]; omega⟩
    · obtain rfl : k = xs.length := by omega
      go_wp2_with fail
      go_ret
      exact ⟨_, rfl, Nat.le_refl _, hB, hb⟩
end Go.Proofs.YtpbjpochjagicaaGreat

namespace Go.Proofs.YtpbjpochjagicaaGreat
open Go.RowKit

/-- The bag in block g may have turned; all else that there was lies as it lay. -/
structure Kb (g : Nat) (w w' : World) : Prop where
  bag : BagAt w' g
  grown : w.grownBy w' (some g)
section
variable {g : Nat} {w w' w2 : World}
theorem Kb.refl (h : BagAt w g) : Kb g w w := ⟨h, World.grownBy.refl _ _⟩
theorem Kb.size (h : Kb g w w') : w.heap.size ≤ w'.heap.size := h.grown.size
theorem Kb.block (h : Kb g w w') {k : Nat} (h1 : k < w.heap.size) (h2 : k ≠ g) : w'.heap[k]? = w.heap[k]? := h.grown.block k h1 (fun e => h2 (by injection e))
theorem Kb.cell (h : Kb g w w') {p : Addr} (h1 : p.block < w.heap.size) (h2 : p.block ≠ g) : w'.cell? p = w.cell? p := World.cell?_of_block (h.block h1 h2)
theorem Kb.frozen (h : Kb g w w') {p : Addr} (h1 : p.block < w.heap.size) (h2 : p.block ≠ g) : w'.frozen? p = w.frozen? p := World.frozen?_of_block (h.block h1 h2)
theorem Kb.trans (h : Kb g w w') (k : Kb g w' w2) : Kb g w w2 :=
  ⟨k.bag, k.grown.os.trans h.grown.os, k.grown.tape.trans h.grown.tape, k.grown.output.trans h.grown.output, Nat.le_trans h.size k.size, fun i hi hne => (k.grown.block i (Nat.lt_of_lt_of_le hi h.size) hne).trans (h.grown.block i hi hne)⟩
theorem Kb.bagged (h : Kb g w w') (k : Bagged g w' w2) : Kb g w w2 := h.trans ⟨k.bag h.bag, k.grown⟩
theorem Kb.below {B : Nat} (h : Kb g w w') (hB : B ≤ g) (hg : g < w.heap.size) : Below B w w' :=
  ⟨h.grown.os, h.grown.tape, h.grown.output, h.size, fun k hk => h.block (by omega) (by omega)⟩
theorem Kb.alloc (h : Kb g w w') (o : Obj) : Kb g w (w'.alloc o) := h.trans ⟨h.bag.alloc o, World.grownBy_alloc _ o _⟩
theorem Kb.drew (h : Kb g w w') : Kb g w w'.drew := ⟨h.bag, h.grown.os, h.grown.tape, h.grown.output, h.grown.size, h.grown.block⟩
theorem Kb.drewN (h : Kb g w w') (n : Nat) : Kb g w (w'.drewN n) := ⟨h.bag, h.grown.os, h.grown.tape, h.grown.output, h.grown.size, h.grown.block⟩
theorem Kb.step {B : Nat} (h : Kb g w w') (k : Below B w' w2) (hB : w.heap.size ≤ B) (hg : g < w.heap.size) : Kb g w w2 :=
  ⟨h.bag.below k (by omega), k.os.trans h.grown.os, k.tape.trans h.grown.tape, k.output.trans h.grown.output, Nat.le_trans h.size k.size, fun i hi hne => (k.block i (by omega)).trans (h.grown.block i hi hne)⟩
theorem Kb.setCell (h : Kb g w w') {p : Addr} (hp : w.heap.size ≤ p.block) (hg : g < w.heap.size) (u : Value) : Kb g w (w'.setCell p u) := h.step ((Below.refl w.heap.size w').setCell hp u) (Nat.le_refl _) hg
theorem _root_.Go.Proofs.YtpbjpochjagicaaGreat.Bagged.kb (hB : Bagged g w' w2) (h : Kb g w w') : Kb g w' w2 := (Kb.refl h.bag).bagged hB
theorem Kb.grow {row : Option Nat} (h : Kb g w w') (hg2 : w'.grownBy w2 row) (hr : ∀ k, row = some k → w.heap.size ≤ k) (hg : g < w.heap.size) : Kb g w w2 :=
  h.step ((Below.refl w.heap.size w').grown hg2 h.size hr) (Nat.le_refl _) hg
/-- An own row stands. -/
theorem Kb.row {base size n : Nat} {e : TypeId} {v : Value} {xs : List Value} (h : Kb g w w') (hg : g < base) (hr : w.ownsRow base e size v n xs) : w'.ownsRow base e size v n xs := by
  refine ⟨hr.1, ?_⟩
  rcases hr.2 with h2 | ⟨b, cap, cur, hv, hg2, hh, r⟩
  · exact .inl h2
  · exact .inr ⟨b, cap, cur, hv, hg2, (h.block (lt_of_block hh) (by omega)).trans hh, r⟩
theorem Kb.ints {B : Nat} {A : Option Addr} {xs : List Int} (h : Kb g w w') (hx : Ints w B A xs) (hB : B ≤ w.heap.size) (hg : ∀ p, A = some p → p.block ≠ g) : Ints w' B A xs := fun k x hk => by
  obtain ⟨b, off, hA, hb, hc⟩ := hx k x hk
  exact ⟨b, off, hA, hb, (h.cell (p := ⟨b, off + k, none⟩) (Nat.lt_of_lt_of_le hb hB) (hg ⟨b, off, none⟩ hA : b ≠ g)).trans hc⟩
end

/-- A rising list of numbers from lo on, below k. -/
structure Upw (lo k : Int) (xs : List Int) : Prop where
  up : xs.Pairwise (· < ·)
  inn : ∀ x ∈ xs, lo ≤ x ∧ x < k
  len : (xs.length : Int) ≤ k - lo
theorem Upw.nil {lo k : Int} (h : lo ≤ k) : Upw lo k [] := ⟨List.Pairwise.nil, fun _ h => by simp at h, by simp; omega⟩
theorem Upw.more {lo k : Int} {xs : List Int} (h : Upw lo k xs) : Upw lo (k + 1) xs := ⟨h.up, fun x hx => by have := h.inn x hx; omega, by have := h.len; omega⟩
theorem Upw.snoc {lo k : Int} {xs : List Int} (h : Upw lo k xs) (hk : lo ≤ k) : Upw lo (k + 1) (xs ++ [k]) := by
  refine ⟨?_, fun x hx => ?_, ?_⟩
  · rw [List.pairwise_append]
    refine ⟨h.up, by simp, fun a ha b hb => ?_⟩
    simp at hb
    subst hb
    exact (h.inn a ha).2
  · rw [List.mem_append] at hx
    rcases hx with hx | hx
    · have := h.inn x hx; omega
    · simp at hx; omega
  · have := h.len
    simp
    omega
theorem rising_from_of (lo hi oe : Int) : ∀ (xs : List Int) (prev : Option Int), xs.Pairwise (· < ·) → (∀ x ∈ xs, lo ≤ x ∧ x ≤ hi) → (∀ p, prev = some p → ∀ x ∈ xs, p < x) → Pl.risingFrom lo hi oe prev xs = 0
  | [], _, _, _, _ => rfl
  | n :: l, prev, h1, h2, h3 => by
    have ho : Pl.out n lo hi = false := by
      have := h2 n (by simp)
      simp [Pl.out]; omega
    rw [List.pairwise_cons] at h1
    have hr := rising_from_of lo hi oe l (some n) h1.2 (fun x hx => h2 x (by simp [hx])) (fun p hp x hx => by injection hp with hp; subst hp; exact h1.1 x hx)
    cases prev with
    | none => simpa [Pl.risingFrom, ho] using hr
    | some p =>
      have := h3 p rfl n (by simp)
      simp [Pl.risingFrom, ho, hr]
      omega
theorem Upw.rising {lo hi : Int} {xs : List Int} (h : Upw lo (hi + 1) xs) (oe : Int) : Pl.rising xs lo hi oe = 0 :=
  rising_from_of lo hi oe xs none h.up (fun x hx => by have := h.inn x hx; omega) (fun p hp => by cases hp)

/-- What Some deals. -/
def SomePost (g : Nat) (n : Int) (w : World) (e : Ending) (w' : World) : Prop := ∃ A c xs, e = .returned (.slice A xs.length c) ∧ OwnInts w' w.heap.size A c xs ∧ Upw 0 n xs ∧ Kb g w w'

set_option maxHeartbeats 1000000 in
theorem some_any (g : Nat) (n : Nat) (w : World) (hb : BagAt w g) (hn : n ≤ 1000) : Calls Tryz.prog 73 #[.pointer (some ⟨g, 0, none⟩), .int .i64 n] w (SomePost g n w) := by
  have hg := hb.lt
  have hK0 := Lib.hid (Kb.refl hb)
  go_enter Tryz.func73, Tryz.ntmps73
  go_wp2_with fail
  go_loopw [5, 6] (fun v i wr => ∃ (k : Nat) (A : Option Addr) (c : Nat) (xs : List Int), k ≤ n ∧ i = .int .i64 k ∧ v = .slice A xs.length c ∧ OwnInts wr w.heap.size A c xs ∧ Upw 0 k xs ∧ Kb g w wr) (fun _ i _ => n - (intOf i).toNat)
  case atStart => exact ⟨0, none, 0, [], by omega, rfl, rfl, OwnInts.nil _ _, Upw.nil (by omega), hK0.out⟩
  case round =>
    obtain ⟨k, A, c, xs, hk, rfl, rfl, hown, hasc, hK⟩ := hrel
    have hlen := hasc.len
    by_cases hlt : k < n
    · have hki : (k : Int) < (n : Int) := by omega
      go_wp2_with (first | (go_at_call 72; refine (chance_any g _ _ _ hK.bag (by omega) (by omega)).mono ?_; rintro e w1 ⟨b, rfl, hB⟩; cases b) | (at_builtin; refine wpl_app_ints rfl (.tmp 14) (.tmp 16) 23 rfl w.heap.size Tryz.underlying23 int_info A c xs rfl (own_alloc ((hB.kb hK).row (by omega) hown) _) (w1.heap.size + 1) (some ⟨w1.heap.size, 0, none⟩) 1 [(k : Int)] rfl (ints_one _ _ _ (by simp) (by omega)) (by simp; omega) (by simp; have := hK.size; have := hB.size; omega) ?_; intro A2 c2 w2 hown2 hg2 hat2))
      · go_roundw
        · exact ⟨k + 1, A, c, xs, by omega, by go_num, rfl, (hB.kb hK).row (by omega) hown, hasc.more, hK.bagged hB⟩
        · simp [intOf]; omega
      · go_roundw
        · refine ⟨k + 1, A2, c2, xs ++ [(k : Int)], by omega, by go_num, by simp, hown2, hasc.snoc (by omega), ?_⟩
          exact ((hK.bagged hB).alloc _).grow hg2 (own_from hown) hg
        · simp [intOf]; omega
    · obtain rfl : k = n := by omega
      go_wp2_with fail
      go_ret
      exact ⟨A, c, xs, rfl, hown, hasc, hK⟩
end Go.Proofs.YtpbjpochjagicaaGreat
