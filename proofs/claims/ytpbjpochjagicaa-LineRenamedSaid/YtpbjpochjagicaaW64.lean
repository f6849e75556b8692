/- Walks: all numbers in some order: Deal. -/
import Derived.Test.YtpbjpochjagicaaW35
import Derived.OwnWalk
namespace Go.Proofs.Ytpbjpochjagicaa
open Go.RowKit

/-- All numbers from 0 to n - 1, in some order. -/
structure Mixed (n : Nat) (xs : List Int) : Prop where
  len : xs.length = n
  inn : ∀ a, a < n → 0 ≤ xs.getD a 0 ∧ xs.getD a 0 < n
  inj : ∀ a b, a < n → b < n → xs.getD a 0 = xs.getD b 0 → a = b
theorem getD_swap (xs : List Int) (i k : Nat) (u v : Int) (hi : i < xs.length) (hk : k < xs.length) (j : Nat) : ((xs.set i u).set k v).getD j 0 = if j = k then v else if j = i then u else xs.getD j 0 := by
  simp only [List.getD_eq_getElem?_getD]
  by_cases hjk : j = k
  · subst hjk
    rw [if_pos rfl, List.getElem?_set_self (by simpa using hk)]
    rfl
  · rw [if_neg hjk, List.getElem?_set_ne (Ne.symm hjk)]
    by_cases hji : j = i
    · subst hji
      rw [if_pos rfl, List.getElem?_set_self hi]
      rfl
    · rw [if_neg hji, List.getElem?_set_ne (Ne.symm hji)]
theorem Mixed.swap {n : Nat} {xs : List Int} (h : Mixed n xs) {i k : Nat} (hi : i < n) (hk : k < n) : Mixed n ((xs.set i (xs.getD k 0)).set k (xs.getD i 0)) := by
  have e : ∀ j, j < n → ∃ s, s < n ∧ ((xs.set i (xs.getD k 0)).set k (xs.getD i 0)).getD j 0 = xs.getD s 0 ∧ (s = if j = k then i else if j = i then k else j) := fun j hj => by
    refine ⟨if j = k then i else if j = i then k else j, ?_, ?_, rfl⟩
    · split
      · exact hi
      · split
        · exact hk
        · exact hj
    · rw [getD_swap xs i k _ _ (by rw [h.len]; exact hi) (by rw [h.len]; exact hk)]
      by_cases h1 : j = k
      · rw [if_pos h1, if_pos h1]
      · rw [if_neg h1, if_neg h1]
        by_cases h2 : j = i
        · rw [if_pos h2, if_pos h2]
        · rw [if_neg h2, if_neg h2]
  refine ⟨by simp [h.len], fun a ha => ?_, fun a b ha hb hab => ?_⟩
  · obtain ⟨s, hs, he, _⟩ := e a ha
    rw [he]
    exact h.inn s hs
  · obtain ⟨s, hs, he, hse⟩ := e a ha
    obtain ⟨t, ht, hf, hte⟩ := e b hb
    rw [he, hf] at hab
    have := h.inj s t hs ht hab
    subst this
    rw [hse] at hte
    by_cases a1 : a = k <;> by_cases a2 : a = i <;> by_cases b1 : b = k <;> by_cases b2 : b = i <;> simp_all
theorem mixed_nums (n : Nat) : Mixed n (Pl.nums n) := by
  have e : ∀ a, a < n → (Pl.nums n).getD a 0 = (a : Int) := fun a ha => by
    simp only [Pl.nums, List.getD_eq_getElem?_getD, List.getElem?_map]
    rw [List.getElem?_range ha]
    rfl
  refine ⟨by simp [Pl.nums], fun a ha => ?_, fun a b ha hb hab => ?_⟩
  · rw [e a ha]; omega
  · rw [e a ha, e b hb] at hab; omega
theorem Mixed.nodup {n : Nat} {xs : List Int} (h : Mixed n xs) : xs.Nodup := by
  unfold List.Nodup
  rw [List.pairwise_iff_getElem]
  intro i j hi hj hij he
  have e : ∀ a (ha : a < xs.length), xs.getD a 0 = xs[a] := fun a ha => by simp [List.getD_eq_getElem?_getD, List.getElem?_eq_getElem ha]
  have := h.inj i j (by rw [← h.len]; exact hi) (by rw [← h.len]; exact hj) (by rw [e i hi, e j hj]; exact he)
  omega
theorem Mixed.sur {n : Nat} {xs : List Int} (h : Mixed n xs) {t : Int} (h0 : 0 ≤ t) (h1 : t < n) : ∃ a, a < n ∧ xs.getD a 0 = t := by
  have e : ∀ a (ha : a < xs.length), xs.getD a 0 = xs[a] := fun a ha => by simp [List.getD_eq_getElem?_getD, List.getElem?_eq_getElem ha]
  by_cases ht : t ∈ xs
  · obtain ⟨a, ha, rfl⟩ := List.getElem_of_mem ht
    exact ⟨a, by rw [← h.len]; exact ha, e a ha⟩
  · exfalso
    have hm : ∀ x ∈ t :: xs, x ∈ Pl.nums n := fun x hx => by
      have hr : 0 ≤ x ∧ x < n := by
        rcases List.mem_cons.1 hx with rfl | hx
        · exact ⟨h0, h1⟩
        · obtain ⟨a, ha, rfl⟩ := List.getElem_of_mem hx
          rw [← e a ha]
          exact h.inn a (by rw [← h.len]; exact ha)
      simp only [Pl.nums, List.mem_map, List.mem_range]
      exact ⟨x.toNat, by omega, by omega⟩
    have := Pl.length_le_of_nodup_subset (t :: xs) (Pl.nums n) (List.nodup_cons.2 ⟨ht, h.nodup⟩) hm
    rw [List.length_cons, h.len] at this
    simp [Pl.nums] at this
    omega

def DealPost (g n : Nat) (w : World) (e : Ending) (w' : World) : Prop := ∃ A cp xs, e = .returned (.slice A xs.length cp) ∧ OwnInts w' w.heap.size A cp xs ∧ Mixed n xs ∧ Kb g w w'

set_option maxRecDepth 20000 in
set_option maxHeartbeats 2000000 in
theorem deal_any (g n : Nat) (w : World) (hb : BagAt w g) (hn : n ≤ 1000) : Calls Try.prog 26 #[.pointer (some ⟨g, 0, none⟩), .int .i64 n] w (DealPost g n w) := by
  obtain ⟨i0, t1, t2, t3, t4⟩ := info_parts int_info
  have HB := Lib.hid hb
  have hgl := hb.lt
  have e1 : i0.bytes * n ≤ 281474976710656 := by rw [t4]; omega
  have e2 : n ≤ maxLen := by simp only [maxLen]; omega
  clear hb
  go_enter Try.func26, Try.ntmps26
  go_wp2_with (at_make; refine wpList_make_full w rfl (.tmp 10) (.tmp 10) 22 rfl w.heap.size 3 i0 (.int .i64 0) 1 Try.underlying22 t1 t2 t3 .i64 .i64 n n n rfl rfl rfl rfl e1 e2 (Nat.le_refl _) ?_; intro w1 hown1 hg1; have HO1 := Lib.hid hown1; have HK1 := Lib.hid ((Kb.refl HB.out).grow hg1 (fun k hk => by cases hk) hgl); clear hown1 hg1)
  go_loopw [6] (fun iv wr => ∃ (k : Nat) (cs : List Value), k ≤ n ∧ iv = .int .i64 k ∧ Hid (wr.ownsRow w.heap.size 3 1 (.slice (some ⟨w.heap.size, 0, none⟩) n n) n cs) ∧ Hid (∀ j, j < k → cs[j]? = some (.int .i64 (j : Int))) ∧ Hid (Kb g w wr)) (fun i _ => n - (intOf i).toNat)
  case atStart => exact ⟨0, _, by omega, rfl, HO1, (fun j hj => absurd hj (Nat.not_lt_zero j)), HK1⟩
  case round =>
    obtain ⟨k, cs, hk, rfl, hO, hC, hK⟩ := hrel
    have hcl : cs.length = n := by have := hO.out.1; omega
    by_cases hkn : k < n
    · have hki : (k : Int) < (n : Int) := by omega
      obtain ⟨u, hu⟩ : ∃ u, cs[k]? = some u := ⟨_, List.getElem?_eq_getElem (by omega)⟩
      have c1 : wr.cell? ⟨w.heap.size, k, none⟩ = some u := (World.ownsRow.cellAt (g := w.heap.size) hO.out k (by omega)).trans hu
      have f1 : wr.frozen? ⟨w.heap.size, k, none⟩ = false := World.ownsRow.frozenAt (g := w.heap.size) hO.out k
      have hst := (hO.out.stored k (.int .i64 (k : Int))).1
      have HST := Lib.hid hst
      have HK2 := Lib.hid (hK.out.setCell (p := ⟨w.heap.size, k, none⟩) (Nat.le_refl _) hgl (.int .i64 (k : Int)))
      have HC2 : Hid (∀ j, j < k + 1 → (cs.set k (.int .i64 (k : Int)))[j]? = some (.int .i64 (j : Int))) := fun j hj => by
        by_cases hjk : j = k
        · subst hjk; rw [List.getElem?_set_self (by omega)]
        · rw [List.getElem?_set_ne (Ne.symm hjk)]; exact hC.out j (by omega)
      clear hu hst hcl
      go_wp2_with fail
      go_roundw
      case rel => exact ⟨k + 1, _, by omega, by go_num, HST, HC2, HK2⟩
      case measure => simp [intOf]; omega
    · obtain rfl : n = k := by omega
      have hcs : cs = (Pl.nums n).map (Value.int .i64) := by
        apply List.ext_getElem?
        intro j
        by_cases hj : j < n
        · rw [hC.out j hj]
          simp [Pl.nums, List.getElem?_range hj]
        · rw [List.getElem?_eq_none (by omega), List.getElem?_eq_none (by simp [Pl.nums]; omega)]
      have hO2 : wr.ownsRow w.heap.size 3 1 (.slice (some ⟨w.heap.size, 0, none⟩) n n) n ((Pl.nums n).map (Value.int .i64)) := by rw [← hcs]; exact hO.out
      have HO2 := Lib.hid hO2
      have hnn : ¬ ((n : Int) < (n : Int)) := by omega
      obtain ⟨wo, rfl⟩ : ∃ wo, wo = wr := ⟨_, rfl⟩
      clear hcs hO2 hO hC HO1 HK1 hcl hkn
      go_wp2_with fail
      go_loopw [7] (fun iv wr => ∃ (m : Nat) (xs : List Int), m ≤ n ∧ iv = .int .i64 ((m : Int) - 1) ∧ Hid (wr.ownsRow w.heap.size 3 1 (.slice (some ⟨w.heap.size, 0, none⟩) n n) n (xs.map (Value.int .i64))) ∧ Hid (Mixed n xs) ∧ Hid (Kb g w wr)) (fun i _ => (intOf i + 1).toNat)
      case atStart => exact ⟨n, _, Nat.le_refl _, rfl, HO2, mixed_nums n, hK⟩
      case round =>
        obtain ⟨m, xs, hm, rfl, hO, hM, hKr⟩ := hrel
        clear HO2 hK
        by_cases hm2 : 2 ≤ m
        · obtain ⟨i, rfl⟩ : ∃ i, m = i + 1 := ⟨m - 1, by omega⟩
          rw [show (((i + 1 : Nat) : Int) - 1) = (i : Int) by omega]
          have hi1 : (0 : Int) < (i : Int) := by omega
          go_wp2_with fail
          refine (up_any g (i : Int) _ hKr.out.bag (by omega)).mono ?_
          rintro e w5 ⟨x, rfl, h0, h1, hB5⟩
          obtain ⟨k2, rfl⟩ : ∃ k2 : Nat, x = k2 := ⟨x.toNat, by omega⟩
          have hxl : xs.length = n := hM.out.len
          have hK5 := hKr.out.bagged hB5
          have hO5 : w5.ownsRow w.heap.size 3 1 (.slice (some ⟨w.heap.size, 0, none⟩) n n) n (xs.map (Value.int .i64)) := (hB5.kb hKr.out).row (by omega) hO.out
          have hin : i < n := by omega
          have hkn : k2 < n := by omega
          have e : ∀ a, a < n → (xs.map (Value.int .i64))[a]? = some (.int .i64 (xs.getD a 0)) := fun a ha => by
            rw [List.getElem?_map, List.getElem?_eq_getElem (by omega)]
            simp [List.getD_eq_getElem?_getD, List.getElem?_eq_getElem (show a < xs.length by omega)]
          have ci : w5.cell? ⟨w.heap.size, i, none⟩ = some (.int .i64 (xs.getD i 0)) := (World.ownsRow.cellAt (g := w.heap.size) hO5 i (by omega)).trans (e i hin)
          have ck : w5.cell? ⟨w.heap.size, k2, none⟩ = some (.int .i64 (xs.getD k2 0)) := (World.ownsRow.cellAt (g := w.heap.size) hO5 k2 (by omega)).trans (e k2 hkn)
          have fi : w5.frozen? ⟨w.heap.size, i, none⟩ = false := World.ownsRow.frozenAt (g := w.heap.size) hO5 i
          have fk : w5.frozen? ⟨w.heap.size, k2, none⟩ = false := World.ownsRow.frozenAt (g := w.heap.size) hO5 k2
          have hin2 : (i : Int) < (n : Int) := by omega
          have hkn2 : (k2 : Int) < (n : Int) := by omega
          have hO6 := ((hO5.stored i (.int .i64 (xs.getD k2 0))).1.stored k2 (.int .i64 (xs.getD i 0))).1
          rw [← List.map_set, ← List.map_set] at hO6
          have HO6 := Lib.hid hO6
          have HM6 := Lib.hid (hM.out.swap hin hkn)
          have HK6 := Lib.hid (((hK5.setCell (p := ⟨w.heap.size, i, none⟩) (Nat.le_refl _) hgl (.int .i64 (xs.getD k2 0))).setCell (p := ⟨w.heap.size, k2, none⟩) (Nat.le_refl _) hgl (.int .i64 (xs.getD i 0))))
          clear hxl hK5 hO5 e hO6 hB5 hO hM hKr
          by_cases hik : i = k2
          · subst hik
            generalize xs.getD i 0 = vi at *
            go_wp2_with fail
            go_region
            go_wp2_with fail
            go_roundw
            case rel => exact ⟨i, _, by omega, rfl, (by exact HO6.out), HM6, (by exact HK6.out.drew)⟩
            case measure => simp [intOf]
          · generalize xs.getD i 0 = vi at *
            generalize xs.getD k2 0 = vk at *
            go_wp2_with fail
            go_region
            go_wp2_with fail
            go_roundw
            case rel => exact ⟨i, _, by omega, rfl, (by exact HO6.out), HM6, (by exact HK6.out.drew)⟩
            case measure => simp [intOf]
        · have q1 : ¬ (0 : Int) < (m : Int) - 1 := by omega
          have q2 : ¬ (1 : Int) < (m : Int) := by omega
          have hfin : Hid (OwnInts wr w.heap.size (some ⟨w.heap.size, 0, none⟩) n xs) := by
            show OwnInts _ _ _ _ _
            unfold OwnInts
            rw [hM.out.len]
            exact hO.out
          clear hO
          go_wp2_with fail
          go_ret
          exact ⟨some ⟨w.heap.size, 0, none⟩, n, xs, by rw [hM.out.len]; rfl, hfin.out, hM.out, hKr.out⟩
theorem deal_int (g : Nat) (s : Int) (w : World) (hb : BagAt w g) (h0 : 0 ≤ s) (h1 : s ≤ 1000) : Calls Try.prog 26 #[.pointer (some ⟨g, 0, none⟩), .int .i64 s] w (DealPost g s.toNat w) := by
  obtain ⟨k, rfl⟩ : ∃ k : Nat, s = k := ⟨s.toNat, by omega⟩
  have := deal_any g k w hb (by omega)
  simpa using this
end Go.Proofs.Ytpbjpochjagicaa
