/- The contracts of line, closed at the chapter's examples (by gen_kx.py). -/
import Derived.Test.YtpbjpochjagicaaGreatDoorRRW34
import Derived.Test.YtpbjpochjagicaaGreatDoorRRW40
import Derived.Test.YtpbjpochjagicaaGreatDoorRRW49
import Derived.Test.YtpbjpochjagicaaGreatDoorRRW60
import Derived.Test.YtpbjpochjagicaaGreatDoorRRW45
import Derived.Test.YtpbjpochjagicaaGreatDoorRRW57
import Derived.Test.YtpbjpochjagicaaGreatDoorRRW46
namespace Go.Proofs.YtpbjpochjagicaaGreatDoorRR
open Go.RowKit

/-- A list and an error. -/
def LPost (L : List Int) (v : Int) (w : World) (e : Ending) (w' : World) : Prop := ∃ A cp, e = .returned (.tuple #[.slice A L.length cp, .int .i64 v]) ∧ Ints w' w'.heap.size A L ∧ Below w.heap.size w w'
theorem lpost_list {q : Int} {r : Option (List Int)} {L : List Int} {w w' : World} {e : Ending} (hq : q = 0) (hr : r = some L) (h : ListPost q r w e w') : LPost L 0 w e w' := by
  obtain ⟨A, k, c, v, rfl, hb, -, -, h3⟩ := h
  obtain ⟨rfl, rfl, hI⟩ := h3 L hq hr
  exact ⟨A, c, rfl, hI, hb⟩
theorem sorted_ext : ∀ {l k : List Int}, l.Pairwise (· < ·) → k.Pairwise (· < ·) → (∀ x, x ∈ l ↔ x ∈ k) → l = k
  | [], [], _, _, _ => rfl
  | [], y :: k, _, _, h => absurd ((h y).2 (by simp)) (by simp)
  | x :: l, [], _, _, h => absurd ((h x).1 (by simp)) (by simp)
  | x :: l, y :: k, hl, hk, h => by
    rw [List.pairwise_cons] at hl hk
    have e : x = y := by
      rcases List.mem_cons.1 ((h x).1 (by simp)) with e | e
      · exact e
      · rcases List.mem_cons.1 ((h y).2 (by simp)) with e2 | e2
        · exact e2.symm
        · have := hk.1 x e
          have := hl.1 y e2
          omega
    subst e
    rw [sorted_ext hl.2 hk.2 (fun z => ⟨fun hz => ?_, fun hz => ?_⟩)]
    · rcases List.mem_cons.1 ((h z).1 (List.mem_cons_of_mem _ hz)) with e | e
      · subst e; exact absurd (hl.1 z hz) (by omega)
      · exact e
    · rcases List.mem_cons.1 ((h z).2 (List.mem_cons_of_mem _ hz)) with e | e
      · subst e; exact absurd (hk.1 z hz) (by omega)
      · exact e
def slimK : Pl.Cch := ⟨[1, 2], 3, 12, [1], [], false⟩
theorem bars_0 (tA sA : Option Addr) (tc sc : Nat) (gA bA hA : Option Addr) (gc bc hc : Nat) (w : World) (hn : NReads w w.heap.size Pl.netN tA sA tc sc) (hr : CReads w w.heap.size Pl.carK gA bA hA gc bc hc) : Calls Tryz.prog 9 #[.agg #[.int .i64 4, .slice tA 4 tc, .slice sA 1 sc], .agg #[.slice gA 2 gc, .int .i64 4, .int .i64 12, .slice bA 1 bc, .slice hA 0 hc, .bool false], .int .i64 0] w (LPost [] 0 w) := by
  refine (bars_any Pl.netN tA sA tc sc Pl.carK gA bA hA gc bc hc 0 w hn hr).mono ?_
  rw [show barsOf Pl.netN Pl.carK 0 = ([], 0) by kernel_rfl]
  rintro e w' ⟨A, cp, rfl, ho, hb⟩
  exact ⟨A, cp, rfl, ho.ints, hb⟩
theorem bars_2 (tA sA : Option Addr) (tc sc : Nat) (gA bA hA : Option Addr) (gc bc hc : Nat) (w : World) (hn : NReads w w.heap.size Pl.netN tA sA tc sc) (hr : CReads w w.heap.size Pl.carK gA bA hA gc bc hc) : Calls Tryz.prog 9 #[.agg #[.int .i64 4, .slice tA 4 tc, .slice sA 1 sc], .agg #[.slice gA 2 gc, .int .i64 4, .int .i64 12, .slice bA 1 bc, .slice hA 0 hc, .bool false], .int .i64 2] w (LPost [2] 0 w) := by
  refine (bars_any Pl.netN tA sA tc sc Pl.carK gA bA hA gc bc hc 2 w hn hr).mono ?_
  rw [show barsOf Pl.netN Pl.carK 2 = ([2], 0) by kernel_rfl]
  rintro e w' ⟨A, cp, rfl, ho, hb⟩
  exact ⟨A, cp, rfl, ho.ints, hb⟩
theorem bars_3 (tA sA : Option Addr) (tc sc : Nat) (gA bA hA : Option Addr) (gc bc hc : Nat) (w : World) (hn : NReads w w.heap.size Pl.netN tA sA tc sc) (hr : CReads w w.heap.size Pl.carK gA bA hA gc bc hc) : Calls Tryz.prog 9 #[.agg #[.int .i64 4, .slice tA 4 tc, .slice sA 1 sc], .agg #[.slice gA 2 gc, .int .i64 4, .int .i64 12, .slice bA 1 bc, .slice hA 0 hc, .bool false], .int .i64 3] w (LPost [5, 6] 0 w) := by
  refine (bars_any Pl.netN tA sA tc sc Pl.carK gA bA hA gc bc hc 3 w hn hr).mono ?_
  rw [show barsOf Pl.netN Pl.carK 3 = ([5, 6], 0) by kernel_rfl]
  rintro e w' ⟨A, cp, rfl, ho, hb⟩
  exact ⟨A, cp, rfl, ho.ints, hb⟩
theorem open_ex (tA sA : Option Addr) (tc sc : Nat) (gA bA hA : Option Addr) (gc bc hc : Nat) (w : World) (hn : NReads w w.heap.size Pl.netN tA sA tc sc) (hr : CReads w w.heap.size Pl.carK gA bA hA gc bc hc) : Calls Tryz.prog 10 #[.agg #[.int .i64 4, .slice tA 4 tc, .slice sA 1 sc], .agg #[.slice gA 2 gc, .int .i64 4, .int .i64 12, .slice bA 1 bc, .slice hA 0 hc, .bool false]] w (LPost [0, 1] 0 w) := by
  refine (open_any Pl.netN tA sA tc sc Pl.carK gA bA hA gc bc hc w hn hr (by decide)).mono ?_
  unfold OpenPost
  rw [show openOut Pl.netN Pl.carK = ([0, 1], 0) by kernel_rfl]
  rintro e w' ⟨A, cp, rfl, ho, hb⟩
  exact ⟨A, cp, rfl, ho.ints, hb⟩
theorem reach_01 (tA sA : Option Addr) (tc sc : Nat) (gA bA hA : Option Addr) (gc bc hc : Nat) (w : World) (hn : NReads w w.heap.size Pl.netN tA sA tc sc) (hr : CReads w w.heap.size Pl.carK gA bA hA gc bc hc) : Calls Tryz.prog 12 #[.agg #[.int .i64 4, .slice tA 4 tc, .slice sA 1 sc], .agg #[.slice gA 2 gc, .int .i64 4, .int .i64 12, .slice bA 1 bc, .slice hA 0 hc, .bool false], .int .i64 0, .int .i64 1] w (LPost [0, 1, 2] 0 w) := by
  refine (reach_any Pl.netN tA sA tc sc Pl.carK gA bA hA gc bc hc 0 1 w hn hr (by kernel_rfl)).mono ?_
  rintro e w' ⟨A, cp, ys, rfl, hp, hm, -, hI, hb⟩
  have hr : Pl.reached Pl.netN Pl.carK [] (0, 1) = [(0, 1), (1, 1), (2, 2), (1, 2)] := by kernel_rfl
  have hy : ys = [0, 1, 2] := sorted_ext hp (by decide) (fun x => by rw [hm x]; unfold Pl.comes; rw [hr]; simp; try omega)
  subst hy
  exact ⟨A, cp, rfl, hI, hb⟩
theorem reach_02 (tA sA : Option Addr) (tc sc : Nat) (gA bA hA : Option Addr) (gc bc hc : Nat) (w : World) (hn : NReads w w.heap.size Pl.netN tA sA tc sc) (hr : CReads w w.heap.size Pl.carK gA bA hA gc bc hc) : Calls Tryz.prog 12 #[.agg #[.int .i64 4, .slice tA 4 tc, .slice sA 1 sc], .agg #[.slice gA 2 gc, .int .i64 4, .int .i64 12, .slice bA 1 bc, .slice hA 0 hc, .bool false], .int .i64 0, .int .i64 2] w (LPost [0] 0 w) := by
  refine (reach_any Pl.netN tA sA tc sc Pl.carK gA bA hA gc bc hc 0 2 w hn hr (by kernel_rfl)).mono ?_
  rintro e w' ⟨A, cp, ys, rfl, hp, hm, -, hI, hb⟩
  have hr : Pl.reached Pl.netN Pl.carK [] (0, 2) = [(0, 2)] := by kernel_rfl
  have hy : ys = [0] := sorted_ext hp (by decide) (fun x => by rw [hm x]; unfold Pl.comes; rw [hr]; simp; try omega)
  subst hy
  exact ⟨A, cp, rfl, hI, hb⟩
theorem reach_22 (tA sA : Option Addr) (tc sc : Nat) (gA bA hA : Option Addr) (gc bc hc : Nat) (w : World) (hn : NReads w w.heap.size Pl.netN tA sA tc sc) (hr : CReads w w.heap.size Pl.carK gA bA hA gc bc hc) : Calls Tryz.prog 12 #[.agg #[.int .i64 4, .slice tA 4 tc, .slice sA 1 sc], .agg #[.slice gA 2 gc, .int .i64 4, .int .i64 12, .slice bA 1 bc, .slice hA 0 hc, .bool false], .int .i64 2, .int .i64 2] w (LPost [0, 1, 2] 0 w) := by
  refine (reach_any Pl.netN tA sA tc sc Pl.carK gA bA hA gc bc hc 2 2 w hn hr (by kernel_rfl)).mono ?_
  rintro e w' ⟨A, cp, ys, rfl, hp, hm, -, hI, hb⟩
  have hr : Pl.reached Pl.netN Pl.carK [] (2, 2) = [(2, 2), (1, 2), (0, 1), (1, 1)] := by kernel_rfl
  have hy : ys = [0, 1, 2] := sorted_ext hp (by decide) (fun x => by rw [hm x]; unfold Pl.comes; rw [hr]; simp; try omega)
  subst hy
  exact ⟨A, cp, rfl, hI, hb⟩
theorem way_013 (tA sA : Option Addr) (tc sc : Nat) (gA bA hA : Option Addr) (gc bc hc : Nat) (w : World) (hn : NReads w w.heap.size Pl.netN tA sA tc sc) (hr : CReads w w.heap.size Pl.carK gA bA hA gc bc hc) : Calls Tryz.prog 13 #[.agg #[.int .i64 4, .slice tA 4 tc, .slice sA 1 sc], .agg #[.slice gA 2 gc, .int .i64 4, .int .i64 12, .slice bA 1 bc, .slice hA 0 hc, .bool false], .int .i64 0, .int .i64 1, .int .i64 3] w (fun e w' => ∃ A k cp km, e = .returned (.tuple #[.slice A k cp, .int .i64 km, .int .i64 11]) ∧ Below w.heap.size w w') := by
  have hf : (Pl.found Pl.netN Pl.carK 0 1 3).length ≤ tripMax := by
    have : (Pl.found Pl.netN Pl.carK 0 1 3).length.ble 1000 = true := by kernel_rfl
    have := Nat.le_of_ble_eq_true this
    refine Nat.le_trans this ?_
    unfold tripMax; omega
  refine (way_any Pl.netN tA sA tc sc Pl.carK gA bA hA gc bc hc 0 1 3 w hn hr hf).mono ?_
  rintro e w' ⟨A, k, c, km, v, rfl, hb, h1, h2, -⟩
  obtain ⟨rfl, rfl, rfl⟩ := h2 (by kernel_rfl) (by kernel_rfl)
  exact ⟨A, _, c, _, rfl, hb⟩
theorem way_031 (tA sA : Option Addr) (tc sc : Nat) (gA bA hA : Option Addr) (gc bc hc : Nat) (w : World) (hn : NReads w w.heap.size Pl.netN tA sA tc sc) (hr : CReads w w.heap.size Pl.carK gA bA hA gc bc hc) : Calls Tryz.prog 13 #[.agg #[.int .i64 4, .slice tA 4 tc, .slice sA 1 sc], .agg #[.slice gA 2 gc, .int .i64 4, .int .i64 12, .slice bA 1 bc, .slice hA 0 hc, .bool false], .int .i64 0, .int .i64 3, .int .i64 1] w (fun e w' => ∃ A k cp km, e = .returned (.tuple #[.slice A k cp, .int .i64 km, .int .i64 3]) ∧ Below w.heap.size w w') := by
  have hf : (Pl.found Pl.netN Pl.carK 0 3 1).length ≤ tripMax := by
    have : (Pl.found Pl.netN Pl.carK 0 3 1).length.ble 1000 = true := by kernel_rfl
    have := Nat.le_of_ble_eq_true this
    refine Nat.le_trans this ?_
    unfold tripMax; omega
  refine (way_any Pl.netN tA sA tc sc Pl.carK gA bA hA gc bc hc 0 3 1 w hn hr hf).mono ?_
  rintro e w' ⟨A, k, c, km, v, rfl, hb, h1, h2, -⟩
  have hq : Pl.asked Pl.netN Pl.carK 0 3 1 = 3 := by kernel_rfl
  rw [hq] at h1
  obtain ⟨rfl, rfl, rfl⟩ := h1 (by decide)
  exact ⟨A, _, c, _, rfl, hb⟩
theorem first_12 (A : Option Addr) (cp : Nat) (tA sA : Option Addr) (tc sc : Nat) (gA bA hA : Option Addr) (gc bc hc : Nat) (w : World) (hn : NReads w w.heap.size Pl.netN tA sA tc sc) (hr : CReads w w.heap.size Pl.carK gA bA hA gc bc hc) (hw : Ints w w.heap.size A [2]) : Calls Tryz.prog 14 #[.agg #[.int .i64 4, .slice tA 4 tc, .slice sA 1 sc], .agg #[.slice gA 2 gc, .int .i64 4, .int .i64 12, .slice bA 1 bc, .slice hA 0 hc, .bool false], .int .i64 0, .int .i64 1, .slice A 1 cp] w (fun e w' => e = .returned (.tuple #[.int .i64 0, .int .i64 2, .int .i64 0]) ∧ Below w.heap.size w w') := by
  have h := first_any Pl.netN tA sA tc sc Pl.carK gA bA hA gc bc hc 0 1 A cp [2] w hn hr hw (by decide)
  rw [show firstVal Pl.netN Pl.carK 0 1 [2] = .tuple #[.int .i64 0, .int .i64 2, .int .i64 0] by kernel_rfl] at h
  exact h
theorem first_11 (A : Option Addr) (cp : Nat) (tA sA : Option Addr) (tc sc : Nat) (gA bA hA : Option Addr) (gc bc hc : Nat) (w : World) (hn : NReads w w.heap.size Pl.netN tA sA tc sc) (hr : CReads w w.heap.size Pl.carK gA bA hA gc bc hc) (hw : Ints w w.heap.size A [1]) : Calls Tryz.prog 14 #[.agg #[.int .i64 4, .slice tA 4 tc, .slice sA 1 sc], .agg #[.slice gA 2 gc, .int .i64 4, .int .i64 12, .slice bA 1 bc, .slice hA 0 hc, .bool false], .int .i64 0, .int .i64 1, .slice A 1 cp] w (fun e w' => e = .returned (.tuple #[.int .i64 0, .int .i64 7, .int .i64 0]) ∧ Below w.heap.size w w') := by
  have h := first_any Pl.netN tA sA tc sc Pl.carK gA bA hA gc bc hc 0 1 A cp [1] w hn hr hw (by decide)
  rw [show firstVal Pl.netN Pl.carK 0 1 [1] = .tuple #[.int .i64 0, .int .i64 7, .int .i64 0] by kernel_rfl] at h
  exact h
theorem first_20 (A : Option Addr) (cp : Nat) (tA sA : Option Addr) (tc sc : Nat) (gA bA hA : Option Addr) (gc bc hc : Nat) (w : World) (hn : NReads w w.heap.size Pl.netN tA sA tc sc) (hr : CReads w w.heap.size Pl.carK gA bA hA gc bc hc) (hw : Ints w w.heap.size A [0]) : Calls Tryz.prog 14 #[.agg #[.int .i64 4, .slice tA 4 tc, .slice sA 1 sc], .agg #[.slice gA 2 gc, .int .i64 4, .int .i64 12, .slice bA 1 bc, .slice hA 0 hc, .bool false], .int .i64 0, .int .i64 2, .slice A 1 cp] w (fun e w' => e = .returned (.tuple #[.int .i64 0, .int .i64 8, .int .i64 0]) ∧ Below w.heap.size w w') := by
  have h := first_any Pl.netN tA sA tc sc Pl.carK gA bA hA gc bc hc 0 2 A cp [0] w hn hr hw (by decide)
  rw [show firstVal Pl.netN Pl.carK 0 2 [0] = .tuple #[.int .i64 0, .int .i64 8, .int .i64 0] by kernel_rfl] at h
  exact h
theorem first_100 (A : Option Addr) (cp : Nat) (tA sA : Option Addr) (tc sc : Nat) (gA bA hA : Option Addr) (gc bc hc : Nat) (w : World) (hn : NReads w w.heap.size Pl.netN tA sA tc sc) (hr : CReads w w.heap.size Pl.carK gA bA hA gc bc hc) (hw : Ints w w.heap.size A [0, 0]) : Calls Tryz.prog 14 #[.agg #[.int .i64 4, .slice tA 4 tc, .slice sA 1 sc], .agg #[.slice gA 2 gc, .int .i64 4, .int .i64 12, .slice bA 1 bc, .slice hA 0 hc, .bool false], .int .i64 0, .int .i64 1, .slice A 2 cp] w (fun e w' => e = .returned (.tuple #[.int .i64 (-1), .int .i64 0, .int .i64 0]) ∧ Below w.heap.size w w') := by
  have h := first_any Pl.netN tA sA tc sc Pl.carK gA bA hA gc bc hc 0 1 A cp [0, 0] w hn hr hw (by decide)
  rw [show firstVal Pl.netN Pl.carK 0 1 [0, 0] = .tuple #[.int .i64 (-1), .int .i64 0, .int .i64 0] by kernel_rfl] at h
  exact h
theorem changes_01 (A : Option Addr) (cp : Nat) (tA sA : Option Addr) (tc sc : Nat) (gA bA hA : Option Addr) (gc bc hc : Nat) (w : World) (hn : NReads w w.heap.size Pl.netN tA sA tc sc) (hr : CReads w w.heap.size Pl.carK gA bA hA gc bc hc) (hw : Ints w w.heap.size A [0, 1]) : Calls Tryz.prog 15 #[.agg #[.int .i64 4, .slice tA 4 tc, .slice sA 1 sc], .agg #[.slice gA 2 gc, .int .i64 4, .int .i64 12, .slice bA 1 bc, .slice hA 0 hc, .bool false], .int .i64 0, .int .i64 1, .slice A 2 cp] w (fun e w' => e = .returned (.tuple #[.int .i64 1, .int .i64 0]) ∧ Below w.heap.size w w') := by
  have h := changes_any Pl.netN tA sA tc sc Pl.carK gA bA hA gc bc hc 0 1 A cp [0, 1] w hn hr hw (by decide)
  rw [show changesVal Pl.netN Pl.carK 0 1 [0, 1] = .tuple #[.int .i64 1, .int .i64 0] by kernel_rfl] at h
  exact h
theorem changes_00 (A : Option Addr) (cp : Nat) (tA sA : Option Addr) (tc sc : Nat) (gA bA hA : Option Addr) (gc bc hc : Nat) (w : World) (hn : NReads w w.heap.size Pl.netN tA sA tc sc) (hr : CReads w w.heap.size Pl.carK gA bA hA gc bc hc) (hw : Ints w w.heap.size A [0, 0]) : Calls Tryz.prog 15 #[.agg #[.int .i64 4, .slice tA 4 tc, .slice sA 1 sc], .agg #[.slice gA 2 gc, .int .i64 4, .int .i64 12, .slice bA 1 bc, .slice hA 0 hc, .bool false], .int .i64 0, .int .i64 1, .slice A 2 cp] w (fun e w' => e = .returned (.tuple #[.int .i64 0, .int .i64 0]) ∧ Below w.heap.size w w') := by
  have h := changes_any Pl.netN tA sA tc sc Pl.carK gA bA hA gc bc hc 0 1 A cp [0, 0] w hn hr hw (by decide)
  rw [show changesVal Pl.netN Pl.carK 0 1 [0, 0] = .tuple #[.int .i64 0, .int .i64 0] by kernel_rfl] at h
  exact h
theorem changes_2 (A : Option Addr) (cp : Nat) (tA sA : Option Addr) (tc sc : Nat) (gA bA hA : Option Addr) (gc bc hc : Nat) (w : World) (hn : NReads w w.heap.size Pl.netN tA sA tc sc) (hr : CReads w w.heap.size Pl.carK gA bA hA gc bc hc) (hw : Ints w w.heap.size A [2]) : Calls Tryz.prog 15 #[.agg #[.int .i64 4, .slice tA 4 tc, .slice sA 1 sc], .agg #[.slice gA 2 gc, .int .i64 4, .int .i64 12, .slice bA 1 bc, .slice hA 0 hc, .bool false], .int .i64 0, .int .i64 1, .slice A 1 cp] w (fun e w' => e = .returned (.tuple #[.int .i64 0, .int .i64 9]) ∧ Below w.heap.size w w') := by
  have h := changes_any Pl.netN tA sA tc sc Pl.carK gA bA hA gc bc hc 0 1 A cp [2] w hn hr hw (by decide)
  rw [show changesVal Pl.netN Pl.carK 0 1 [2] = .tuple #[.int .i64 0, .int .i64 9] by kernel_rfl] at h
  exact h
theorem lacks_ex (tA sA : Option Addr) (tc sc : Nat) (gA bA hA : Option Addr) (gc bc hc : Nat) (w : World) (hn : NReads w w.heap.size Pl.netN tA sA tc sc) (hr : CReads w w.heap.size Pl.carK gA bA hA gc bc hc) : Calls Tryz.prog 16 #[.agg #[.int .i64 4, .slice tA 4 tc, .slice sA 1 sc], .agg #[.slice gA 2 gc, .int .i64 4, .int .i64 12, .slice bA 1 bc, .slice hA 0 hc, .bool false], .int .i64 0, .int .i64 1, .int .i64 2] w (LPost [] 0 w) :=
  (lacks_any Pl.netN tA sA tc sc Pl.carK gA bA hA gc bc hc 0 1 2 w hn hr).mono fun _ _ h => lpost_list (by kernel_rfl) (by kernel_rfl) h
theorem rebuild_ex (tA sA : Option Addr) (tc sc : Nat) (gA bA hA : Option Addr) (gc bc hc : Nat) (w : World) (hn : NReads w w.heap.size Pl.netN tA sA tc sc) (hr : CReads w w.heap.size Pl.carK gA bA hA gc bc hc) : Calls Tryz.prog 17 #[.agg #[.int .i64 4, .slice tA 4 tc, .slice sA 1 sc], .agg #[.slice gA 2 gc, .int .i64 4, .int .i64 12, .slice bA 1 bc, .slice hA 0 hc, .bool false], .int .i64 0, .int .i64 1, .int .i64 3] w (LPost [3] 0 w) :=
  (rebuild_any Pl.netN tA sA tc sc Pl.carK gA bA hA gc bc hc 0 1 3 w hn hr).mono fun _ _ h => lpost_list (by kernel_rfl) (by kernel_rfl) h
theorem must_carK (tA sA : Option Addr) (tc sc : Nat) (gA bA hA : Option Addr) (gc bc hc : Nat) (w : World) (hn : NReads w w.heap.size Pl.netN tA sA tc sc) (hr : CReads w w.heap.size Pl.carK gA bA hA gc bc hc) : Calls Tryz.prog 18 #[.agg #[.int .i64 4, .slice tA 4 tc, .slice sA 1 sc], .agg #[.slice gA 2 gc, .int .i64 4, .int .i64 12, .slice bA 1 bc, .slice hA 0 hc, .bool false], .int .i64 0, .int .i64 1, .int .i64 2] w (LPost [0, 1] 0 w) := by
  refine (must_any Pl.netN tA sA tc sc Pl.carK gA bA hA gc bc hc 0 1 2 w hn hr (by kernel_rfl)).mono ?_
  rintro e w' ⟨A, k, cp, v, rfl, hb, -, h1⟩
  obtain ⟨rfl, rfl, hI⟩ := h1 (by kernel_rfl)
  rw [show Pl.must Pl.netN Pl.carK 0 1 2 = [0, 1] by kernel_rfl] at hI ⊢
  exact ⟨A, cp, rfl, hI, hb⟩
theorem must_slim (tA sA : Option Addr) (tc sc : Nat) (gA bA hA : Option Addr) (gc bc hc : Nat) (w : World) (hn : NReads w w.heap.size Pl.netN tA sA tc sc) (hr : CReads w w.heap.size slimK gA bA hA gc bc hc) : Calls Tryz.prog 18 #[.agg #[.int .i64 4, .slice tA 4 tc, .slice sA 1 sc], .agg #[.slice gA 2 gc, .int .i64 3, .int .i64 12, .slice bA 1 bc, .slice hA 0 hc, .bool false], .int .i64 0, .int .i64 1, .int .i64 2] w (LPost [] 0 w) := by
  refine (must_any Pl.netN tA sA tc sc slimK gA bA hA gc bc hc 0 1 2 w hn hr (by kernel_rfl)).mono ?_
  rintro e w' ⟨A, k, cp, v, rfl, hb, -, h1⟩
  obtain ⟨rfl, rfl, hI⟩ := h1 (by kernel_rfl)
  rw [show Pl.must Pl.netN slimK 0 1 2 = [] by kernel_rfl] at hI ⊢
  exact ⟨A, cp, rfl, hI, hb⟩
theorem heaviest_ex (tA sA : Option Addr) (tc sc : Nat) (gA bA hA : Option Addr) (gc bc hc : Nat) (w : World) (hn : NReads w w.heap.size Pl.netN tA sA tc sc) (hr : CReads w w.heap.size Pl.carK gA bA hA gc bc hc) : Calls Tryz.prog 19 #[.agg #[.int .i64 4, .slice tA 4 tc, .slice sA 1 sc], .agg #[.slice gA 2 gc, .int .i64 4, .int .i64 12, .slice bA 1 bc, .slice hA 0 hc, .bool false], .int .i64 0, .int .i64 1, .int .i64 2] w (fun e w' => e = .returned (.tuple #[.int .i64 15, .int .i64 0]) ∧ Below w.heap.size w w') := by
  have h := heaviest_any Pl.netN tA sA tc sc Pl.carK gA bA hA gc bc hc 0 1 2 w hn hr
  rw [show heavyVal Pl.netN Pl.carK 0 1 2 = .tuple #[.int .i64 15, .int .i64 0] by kernel_rfl] at h
  exact h
end Go.Proofs.YtpbjpochjagicaaGreatDoorRR
