/- Walks: does a car come to a station? -/
import Derived.Test.YtpbjpochjagicaaW11
namespace Go.Proofs.Ytpbjpochjagicaa
open Go.RowKit

theorem run_next' {w : World} {r g : Nat} {es : List (Pl.Place × Nat)} {seen : Array Nat} {clock : Nat} (h : MapIs w g es clock) (hr : IterIs w r g seen clock) (hb : ∀ e ∈ es, e.2 < clock) :
    ((∀ e ∈ es, e.2 ∈ seen) ∧ ∃ k, ∀ ty, (Instr.next (.pointer (some ⟨r, 0, none⟩)) false ty).run Try.prog w = .ok (.tuple #[.bool false]) (w.drewN k)) ∨
    (∃ e k, e ∈ es ∧ e.2 ∉ seen ∧ ∀ ty, (Instr.next (.pointer (some ⟨r, 0, none⟩)) false ty).run Try.prog w = .ok (.tuple #[.bool true, pv e.1, .bool true]) (setIter (w.drewN k) r g (seen.push e.2) clock)) := by
  rcases run_next 0 h hr hb with ⟨h1, k, h2⟩ | ⟨e, k, h1, h2, h3⟩
  · exact .inl ⟨h1, k, fun _ => h2⟩
  · exact .inr ⟨e, k, h1, h2, fun _ => h3⟩

/-- What the iterator in block r has handed out. -/
def seenOf (w : World) (r : Nat) : Array Nat := match w.heap[r]? with | some (.mapIter _ _ s _) => s | _ => #[]
theorem seenOf_is {w : World} {r g : Nat} {seen : Array Nat} {clock : Nat} (h : IterIs w r g seen clock) : seenOf w r = seen := by
  have h' : w.heap[r]? = some (.mapIter (some g) clock seen clock) := h
  simp [seenOf, h']
/-- How many entries are still to come. -/
def leftOf (es : List (Pl.Place × Nat)) (seen : Array Nat) : Nat := (es.filter fun e => !seen.contains e.2).length
theorem leftOf_push {es : List (Pl.Place × Nat)} {seen : Array Nat} {e : Pl.Place × Nat} (he : e ∈ es) (hn : e.2 ∉ seen) : leftOf es (seen.push e.2) < leftOf es seen := by
  unfold leftOf
  have hsub : ∀ l : List (Pl.Place × Nat), (l.filter fun x => !(seen.push e.2).contains x.2).length ≤ (l.filter fun x => !seen.contains x.2).length := by
    intro l
    induction l with
    | nil => simp
    | cons x l ih =>
      simp only [List.filter_cons]
      by_cases h1 : x.2 ∈ seen
      · have h2 : x.2 ∈ seen.push e.2 := by simp [h1]
        simp [h1, h2] at ih ⊢
        exact ih
      · by_cases h3 : x.2 = e.2
        · have h1e : e.2 ∉ seen := h3 ▸ h1
          simp [h1e, h3] at ih ⊢; omega
        · simp [h1, h3] at ih ⊢; exact ih
  induction es with
  | nil => simp at he
  | cons x l ih =>
    simp only [List.filter_cons]
    rcases List.mem_cons.1 he with rfl | he'
    · have := hsub l
      simp [hn] at this ⊢
      omega
    · have h1 := ih he'
      by_cases h1' : x.2 ∈ seen
      · simp [h1'] at h1 ⊢
        exact h1
      · by_cases h3 : x.2 = e.2
        · simp [hn, h3] at h1 ⊢; omega
        · simp [h1', h3] at h1 ⊢; exact h1
theorem zip_lt (R : List Pl.Place) : ∀ e ∈ R.zipIdx, e.2 < R.length := fun e he => by
  have := List.snd_lt_of_mem_zipIdx he
  simpa using this
theorem zip_nodup (R : List Pl.Place) : (R.zipIdx.map Prod.snd).Nodup := by
  rw [List.zipIdx_map_snd]; exact List.nodup_range'
theorem size_setIter (w : World) (r g : Nat) (s : Array Nat) (c : Nat) : (setIter w r g s c).heap.size = w.heap.size := by simp [setIter]
theorem setIter_is {w : World} {r : Nat} (hr : r < w.heap.size) (g : Nat) (s : Array Nat) (c : Nat) : IterIs (setIter w r g s c) r g s c := by simp [IterIs, setIter, hr]
theorem setIter_far {w : World} {r k : Nat} (g : Nat) (s : Array Nat) (c : Nat) (hk : k ≠ r) : (setIter w r g s c).heap[k]? = w.heap[k]? := by
  simp only [setIter]; rw [Array.getElem?_setIfInBounds_ne (Ne.symm hk)]
theorem setIter_below {B : Nat} {a w : World} (h : Below B a w) {r : Nat} (hr : B ≤ r) (g : Nat) (s : Array Nat) (c : Nat) : Below B a (setIter w r g s c) :=
  h.trans ⟨rfl, rfl, rfl, by rw [size_setIter]; exact Nat.le_refl _, fun k hk => setIter_far g s c (by omega)⟩

set_option maxRecDepth 100000 in
set_option maxHeartbeats 4000000 in
theorem comes_any (X N : Nat) (c : Pl.Cch) (c_gA c_bA c_hA : Option Addr) (c_gc c_bc c_hc : Nat) (n : Pl.Nt) (n_tA n_sA : Option Addr) (n_tc n_sc : Nat) (rA : Option Addr) (reb : List Int) (rc : Nat) (p : Pl.Place) (ds : Int) (w : World) (h : CarAt w X N c c_gA c_bA c_hA c_gc c_bc c_hc n n_tA n_sA n_tc n_sc rA reb.length rc)
    (hr : CReads w w.heap.size c c_gA c_bA c_hA c_gc c_bc c_hc) (hn : NReads w w.heap.size n n_tA n_sA n_tc n_sc) (hreb : Ints w w.heap.size rA reb) (hrl : reb.length ≤ 140737488355328)
    (U : List Pl.Place) (hU : ∀ x, Pl.Gets (Pl.run n c reb) n.tracks.length p x → x ∈ U) (hUl : U.length ≤ 24) :
    Calls Try.prog 67 #[.pointer (some ⟨X, 0, none⟩), .agg #[.int .i64 p.1, .int .i64 p.2], .int .i64 ds] w fun e w' => e = .returned (.bool (Pl.comes n c reb p ds)) ∧ Below w.heap.size w w' := by
  have hXs : X < w.heap.size := h.ltX
  have hNs : N < w.heap.size := h.ltN
  have hbA := (Below.refl w.heap.size w).alloc (Nat.le_refl _) (.cells #[.int .i64 p.1, .int .i64 p.2] 93)
  have hC := reached_any X N c c_gA c_bA c_hA c_gc c_bc c_hc n n_tA n_sA n_tc n_sc rA reb rc p (w.alloc (.cells #[.int .i64 p.1, .int .i64 p.2] 93)) (h.alloc _) ((hr.below hbA).more (by simp)) ((hn.below hbA).more (by simp)) ((hreb.below hbA).more (by simp)) hrl U hU hUl
  have HC := Lib.hid hC
  have HbA := Lib.hid hbA
  clear hC h hr hn hreb hU hbA
  have hdef : Hid (Pl.comes n c reb p ds = (Pl.reached n c reb p).any fun q => q.1 == ds) := rfl
  obtain ⟨R, hR⟩ : ∃ R, R = Pl.reached n c reb p := ⟨_, rfl⟩
  have HR := Lib.hid hR; clear hR
  go_enter Try.func67, Try.ntmps67
  go_wp2_with fail
  refine HC.out.mono ?_
  rintro e w1 ⟨rfl, hb1, hm1⟩
  rw [← HR.out] at hm1
  simp only [World.size_alloc] at hm1 hb1 ⊢
  have hrange := run_range hm1
  have hlt1 := hm1.lt
  have Hm1 := Lib.hid hm1; have HW1 := Lib.hid (HbA.out.trans (hb1.mono (by omega))); clear hm1 hb1
  go_wp2_with fail
  have hI0 : Hid (IterIs (w1.alloc (.mapIter (some (w.heap.size + 1 + 1)) R.length #[] R.length)) w1.heap.size (w.heap.size + 1 + 1) #[] R.length) := heap_alloc_new w1 _
  have hM0 : Hid (MapIs (w1.alloc (.mapIter (some (w.heap.size + 1 + 1)) R.length #[] R.length)) (w.heap.size + 1 + 1) R.zipIdx R.length) := Hm1.out.of_block (Below.heap_alloc _ _ _ hlt1)
  have hW0 : Hid (Below w.heap.size w (w1.alloc (.mapIter (some (w.heap.size + 1 + 1)) R.length #[] R.length))) := HW1.out.alloc (by omega) _
  clear hrange
  have hIB : w.heap.size + 1 + 1 < w1.heap.size := hlt1
  have hIs : w1.heap.size < (w1.alloc (.mapIter (some (w.heap.size + 1 + 1)) R.length #[] R.length)).heap.size := by simp
  generalize w1.alloc (.mapIter (some (w.heap.size + 1 + 1)) R.length #[] R.length) = W at hI0 hM0 hW0 hIs ⊢
  have hS0 : Hid (∀ e ∈ R.zipIdx, e.2 ∈ (#[] : Array Nat) → e.1.1 ≠ ds) := by intro e _ h; simp at h
  have HIs := Lib.hid hIs; clear hIs
  go_loopw [] (fun wr => ∃ seen : Array Nat, Hid (IterIs wr w1.heap.size (w.heap.size + 1 + 1) seen R.length) ∧ Hid (MapIs wr (w.heap.size + 1 + 1) R.zipIdx R.length) ∧ Hid (Below w.heap.size w wr) ∧ Hid (∀ e ∈ R.zipIdx, e.2 ∈ seen → e.1.1 ≠ ds))
    (fun wr => leftOf R.zipIdx (seenOf wr w1.heap.size))
  case atStart => exact ⟨#[], hI0, hM0, hW0, hS0⟩
  case round =>
    obtain ⟨seen, hI, hM, hW, hS⟩ := hrel
    clear hI0 hM0 hW0 hS0 HIs
    rcases run_next' hM.out hI.out (zip_lt R) with ⟨hall, k, hnx⟩ | ⟨e, k, he, hns, hnx⟩
    · have hN : Hid (Pl.comes n c reb p ds = false) := by
        show _ = _
        rw [hdef.out, ← HR.out, List.any_eq_false]
        intro q hq
        obtain ⟨i, hi, rfl⟩ := List.getElem_of_mem hq
        have hz : (R[i], i) ∈ R.zipIdx := by
          rw [List.mem_iff_getElem?]; exact ⟨i, by simp [hi]⟩
        simpa using hS.out _ hz (hall _ hz)
      clear hall
      go_wp2_with fail
      go_ret
      exact ⟨by rw [hN.out]; rfl, below_drewN hW.out _⟩
    · have hsz : w1.heap.size < wr.heap.size := lt_of_block hI.out
      have hI2 : Hid (IterIs (setIter (wr.drewN k) w1.heap.size (w.heap.size + 1 + 1) (seen.push e.2) R.length) w1.heap.size (w.heap.size + 1 + 1) (seen.push e.2) R.length) := setIter_is hsz _ _ _
      have hM2 : Hid (MapIs (setIter (wr.drewN k) w1.heap.size (w.heap.size + 1 + 1) (seen.push e.2) R.length) (w.heap.size + 1 + 1) R.zipIdx R.length) := hM.out.of_block (setIter_far _ _ _ (by omega))
      have hW2 : Hid (Below w.heap.size w (setIter (wr.drewN k) w1.heap.size (w.heap.size + 1 + 1) (seen.push e.2) R.length)) := setIter_below (below_drewN hW.out _) (by omega) _ _ _
      have hen := run_entry hM2.out hI2.out he (zip_nodup R)
      have hmeas : Hid (leftOf R.zipIdx (seen.push e.2) < leftOf R.zipIdx (seenOf wr w1.heap.size)) := by show _ < _; rw [seenOf_is hI.out]; exact leftOf_push he hns
      have hlt2 : Hid ((setIter (wr.drewN k) w1.heap.size (w.heap.size + 1 + 1) (seen.push e.2) R.length).heap.size = wr.heap.size) := size_setIter _ _ _ _ _
      have hWs : w.heap.size + 1 + 1 < wr.heap.size := by omega
      obtain ⟨⟨es, eg⟩, eb⟩ := e
      simp only [pv] at hnx hen
      generalize setIter (wr.drewN k) w1.heap.size (w.heap.size + 1 + 1) (seen.push (((es, eg), eb) : Pl.Place × Nat).2) R.length = W2 at hnx hen hI2 hM2 hW2 hlt2
      have He := Lib.hid he; clear he
      by_cases hd : es = ds
      · have hN : Hid (Pl.comes n c reb p ds = true) := by
          show _ = _
          rw [hdef.out, ← HR.out, List.any_eq_true]
          exact ⟨(es, eg), by have := List.fst_mem_of_mem_zipIdx He.out; simpa using this, by simpa using hd⟩
        have hb : (es == ds) = true := by rw [beq_iff_eq]; exact hd
        clear hd
        go_wp2_with fail
        go_ret
        exact ⟨by rw [hN.out]; rfl, hW2.out.alloc (by rw [hlt2.out]; omega) _⟩
      · have hb : (es == ds) = false := by rw [beq_eq_false_iff_ne]; exact hd
        have hS2 : Hid (∀ e ∈ R.zipIdx, e.2 ∈ seen.push eb → e.1.1 ≠ ds) := by
          intro x hx hm
          rcases Array.mem_push.1 hm with hm | hm
          · exact hS.out x hx hm
          · have hnd := zip_nodup R
            have : x = ((es, eg), eb) := by
              rw [List.mem_iff_getElem?] at hx
              obtain ⟨i, hi⟩ := hx
              have h2 := He.out
              rw [List.mem_iff_getElem?] at h2
              obtain ⟨j, hj⟩ := h2
              rw [List.getElem?_zipIdx] at hi hj
              cases hri : R[i]? with
              | none => rw [hri] at hi; simp at hi
              | some a =>
                cases hrj : R[j]? with
                | none => rw [hrj] at hj; simp at hj
                | some b =>
                  rw [hri] at hi; rw [hrj] at hj
                  simp at hi hj
                  subst hi
                  simp at hm
                  have hij : i = j := by rw [hm]; exact hj.2.symm
                  subst hij
                  rw [hri] at hrj
                  simp at hrj
                  simp [hrj, hj.1, hm]
            rw [this]; exact hd
        clear hd
        go_wp2_with fail
        go_roundw
        case rel => exact ⟨seen.push eb, (Below.heap_alloc _ _ _ (by rw [hlt2.out]; omega)).trans hI2.out, hM2.out.of_block (Below.heap_alloc _ _ _ (by rw [hlt2.out]; omega)), hW2.out.alloc (by rw [hlt2.out]; omega) _, hS2⟩
        case measure => rw [seenOf_is (g := w.heap.size + 1 + 1) (seen := seen.push eb) (clock := R.length) ((Below.heap_alloc _ _ _ (by rw [hlt2.out]; omega)).trans hI2.out)]; exact hmeas.out
end Go.Proofs.Ytpbjpochjagicaa
