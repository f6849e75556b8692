/- What the walk over all ways holds in memory; the least trip. A region that draws its order and ends in a store to a cell that it has loaded: what is asked of the world need not hold behind its last operation. -/
import Derived.Test.YtpbjpochjagicaaGreatDoorRRW23
import Derived.Deep.AppendLies
import Derived.Deep.RegionHeld3
namespace Go.Proofs.YtpbjpochjagicaaGreatDoorRR
open Go.RowKit

/-- Integers in a block outside of S. -/
def IntsN (w : World) (S : Nat → Prop) (A : Option Addr) (xs : List Int) : Prop :=
  ∀ (k : Nat) (x : Int), xs[k]? = some x → ∃ b off, A = some ⟨b, off, none⟩ ∧ b < w.heap.size ∧ ¬ S b ∧ w.cell? ⟨b, off + k, none⟩ = some (.int .i64 x)
section
variable {w w' : World} {S S' : Nat → Prop} {A : Option Addr} {xs : List Int}
theorem IntsN.nil (w : World) (S : Nat → Prop) (A : Option Addr) : IntsN w S A [] := fun k x h => by simp at h
theorem IntsN.ints (h : IntsN w S A xs) : Ints w w.heap.size A xs := fun k x hx => by obtain ⟨b, off, h1, h2, _, h4⟩ := h k x hx; exact ⟨b, off, h1, h2, h4⟩
theorem IntsN.keep (h : IntsN w S A xs) (hk : ∀ b, b < w.heap.size → ¬ S b → ¬ S' b ∧ w'.heap[b]? = w.heap[b]?) : IntsN w' S' A xs := fun k x hx => by
  obtain ⟨b, off, h1, h2, h3, h4⟩ := h k x hx
  obtain ⟨k2, k3⟩ := hk b h2 h3
  have hb' : b < w'.heap.size := by
    cases hh : w.heap[b]? with
    | none => rw [Array.getElem?_eq_none_iff] at hh; omega
    | some o => rw [hh] at k3; exact lt_of_block k3
  exact ⟨b, off, h1, hb', k2, (World.cell?_of_block k3).trans h4⟩
theorem IntsN.of_own {base c : Nat} (h : OwnInts w base A c xs) (hS : ∀ k, base ≤ k → ¬ S k) : IntsN w S A xs := fun k x hx => by
  obtain ⟨b, off, h1, h2, h4⟩ := h.ints k x hx
  subst h1
  have := own_from (n := 0) h b rfl
  exact ⟨b, off, rfl, h2, hS b this, h4⟩
end

/-- The cells of trips in a row; their ways lie elsewhere. -/
def TripCells (w : World) (S : Nat → Prop) : List Pl.Trip → List Value → Prop
  | [], cs => cs = []
  | t :: ts, cs => ∃ A c rest, cs = .slice A t.way.length c :: .int .i64 t.km :: .int .i64 t.changes :: rest ∧ IntsN w S A t.way ∧ t.way.length ≤ 1000 ∧ TripCells w S ts rest
theorem TripCells.length {w : World} {S : Nat → Prop} : ∀ {ts : List Pl.Trip} {cs : List Value}, TripCells w S ts cs → cs.length = ts.length * 3
  | [], cs, h => by rw [show cs = [] from h]; rfl
  | t :: ts, cs, h => by
    obtain ⟨A, c, rest, rfl, _, _, h3⟩ := h
    have := TripCells.length h3
    simp only [List.length_cons]
    omega
theorem TripCells.keep {w w' : World} {S S' : Nat → Prop} (hk : ∀ b, b < w.heap.size → ¬ S b → ¬ S' b ∧ w'.heap[b]? = w.heap[b]?) : ∀ {ts : List Pl.Trip} {cs : List Value}, TripCells w S ts cs → TripCells w' S' ts cs
  | [], cs, h => h
  | t :: ts, cs, h => by
    obtain ⟨A, c, rest, e, h1, h2, h3⟩ := h
    exact ⟨A, c, rest, e, h1.keep hk, h2, TripCells.keep hk h3⟩
theorem TripCells.snoc {w : World} {S : Nat → Prop} {t : Pl.Trip} {A : Option Addr} {c : Nat} (hI : IntsN w S A t.way) (hl : t.way.length ≤ 1000) : ∀ {ts : List Pl.Trip} {cs : List Value}, TripCells w S ts cs →
    TripCells w S (ts ++ [t]) (cs ++ [.slice A t.way.length c, .int .i64 t.km, .int .i64 t.changes])
  | [], cs, h => by rw [show cs = [] from h]; exact ⟨A, c, [], rfl, hI, hl, rfl⟩
  | u :: ts, cs, h => by
    obtain ⟨A', c', rest, rfl, h1, h2, h3⟩ := h
    exact ⟨A', c', _, rfl, h1, h2, TripCells.snoc hI hl h3⟩
/-- The cells of trip number k. -/
theorem TripCells.at_ {w : World} {S : Nat → Prop} : ∀ {ts : List Pl.Trip} {cs : List Value}, TripCells w S ts cs → ∀ {k : Nat} {t : Pl.Trip}, ts[k]? = some t →
    ∃ A c, cs[k * 3]? = some (.slice A t.way.length c) ∧ cs[k * 3 + 1]? = some (.int .i64 t.km) ∧ cs[k * 3 + 2]? = some (.int .i64 t.changes) ∧ IntsN w S A t.way ∧ t.way.length ≤ 1000
  | [], cs, h, k, t, ht => by simp at ht
  | u :: ts, cs, h, 0, t, ht => by
    obtain ⟨A, c, rest, rfl, h1, h2, h3⟩ := h
    simp at ht; subst ht
    exact ⟨A, c, rfl, rfl, rfl, h1, h2⟩
  | u :: ts, cs, h, k + 1, t, ht => by
    obtain ⟨A, c, rest, rfl, h1, h2, h3⟩ := h
    obtain ⟨A', c', e1, e2, e3, e4, e5⟩ := TripCells.at_ h3 (k := k) (by simpa using ht)
    refine ⟨A', c', ?_, ?_, ?_, e4, e5⟩
    · rw [show (k + 1) * 3 = k * 3 + 3 by omega]; exact e1
    · rw [show (k + 1) * 3 + 1 = k * 3 + 1 + 3 by omega]; exact e2
    · rw [show (k + 1) * 3 + 2 = k * 3 + 2 + 3 by omega]; exact e3

def Sx (bf bB : Nat) (r : Option Nat) (k : Nat) : Prop := k = bf ∨ k = bB ∨ some k = r

/-- Where the walk stands: what is found, what is met. r: the block of the row of what is found. -/
structure WalkAt (w0 : World) (bf bB : Nat) (w : World) (ts : List Pl.Trip) (es : List (Pl.Place × Nat)) (ck : Nat) (r : Option Nat) : Prop where
  os : w.os = w0.os
  tape : w.tape = w0.tape
  output : w.output = w0.output
  size : w0.heap.size ≤ w.heap.size
  old : ∀ k, k < w0.heap.size → k ≠ bf → k ≠ bB → w.heap[k]? = w0.heap[k]?
  fnd : ∃ A c cs, w.heap[bf]? = some (.cells #[.slice A ts.length c] 69 (0, 0)) ∧ w.ownsRow w0.heap.size 72 3 (.slice A ts.length c) ts.length cs ∧ TripCells w (Sx bf bB r) ts cs ∧ A.map (·.block) = r
  map : MapIs w bB es ck
  hr : ∀ k, r = some k → w0.heap.size ≤ k ∧ k < w.heap.size

/-- The blocks but the found ones' box, the map and the row are as they were. -/
structure KeptN (bf bB : Nat) (r : Option Nat) (w w' : World) : Prop where
  size : w.heap.size ≤ w'.heap.size
  block : ∀ k, k < w.heap.size → k ≠ bf → k ≠ bB → some k ≠ r → w'.heap[k]? = w.heap[k]?
theorem KeptN.refl (bf bB : Nat) (r : Option Nat) (w : World) : KeptN bf bB r w w := ⟨Nat.le_refl _, fun _ _ _ _ _ => rfl⟩

/-- The row has stayed, or is new since there were H blocks. -/
def RowOk (H : Nat) (r r' : Option Nat) : Prop := r' = r ∨ ∃ k, r' = some k ∧ H ≤ k
theorem KeptN.trans {bf bB : Nat} {r r' : Option Nat} {w w' w'' : World} (h : KeptN bf bB r w w') (h' : KeptN bf bB r' w' w'') (hr : RowOk w.heap.size r r') : KeptN bf bB r w w'' :=
  ⟨Nat.le_trans h.size h'.size, fun k hk h1 h2 h3 => (h'.block k (Nat.lt_of_lt_of_le hk h.size) h1 h2 (by
    rcases hr with rfl | ⟨q, rfl, hq⟩
    · exact h3
    · intro e; injection e with e; omega)).trans (h.block k hk h1 h2 h3)⟩
theorem RowOk.trans {H H' : Nat} {r r' r'' : Option Nat} (h : RowOk H r r') (h' : RowOk H' r' r'') (hH : H ≤ H') : RowOk H r r'' := by
  rcases h' with rfl | ⟨k, rfl, hk⟩
  · exact h
  · exact .inr ⟨k, rfl, by omega⟩
theorem KeptN.below {bf bB : Nat} {r : Option Nat} {w w' : World} (h : Below w.heap.size w w') : KeptN bf bB r w w' := ⟨h.size, fun k hk _ _ _ => h.block k hk⟩
/-- Behind what keeps all that there is. -/
theorem WalkAt.below {w0 : World} {bf bB : Nat} {w w' : World} {ts : List Pl.Trip} {es : List (Pl.Place × Nat)} {ck : Nat} {r : Option Nat} (h : WalkAt w0 bf bB w ts es ck r) (hb : Below w.heap.size w w') : WalkAt w0 bf bB w' ts es ck r := by
  obtain ⟨A, c, cs, f1, f2, f3, f4⟩ := h.fnd
  refine ⟨hb.os.trans h.os, hb.tape.trans h.tape, hb.output.trans h.output, Nat.le_trans h.size hb.size, fun k hk h1 h2 => (hb.block k (Nat.lt_of_lt_of_le hk h.size)).trans (h.old k hk h1 h2),
    ⟨A, c, cs, (hb.block bf (lt_of_block f1)).trans f1, ⟨f2.1, ?_⟩, f3.keep (fun b h1 h2 => ⟨h2, hb.block b h1⟩), f4⟩, h.map.of_block (hb.block bB (lt_of_block h.map)), fun k hk => ⟨(h.hr k hk).1, Nat.lt_of_lt_of_le (h.hr k hk).2 hb.size⟩⟩
  rcases f2.2 with h2 | ⟨g, cap, cur, hv, hg, hh, rr⟩
  · exact .inl h2
  · exact .inr ⟨g, cap, cur, hv, hg, (hb.block g (lt_of_block hh)).trans hh, rr⟩
end Go.Proofs.YtpbjpochjagicaaGreatDoorRR

namespace Go.Proofs.YtpbjpochjagicaaGreatDoorRR
open Go.RowKit
section
variable {P : Program} {ops : Array Oper} {Q : Exit → Act → World → Prop} {md : Region.Mode} {S : World → Prop} {last : Nat}

/-- Whatever order is picked; S holds behind every operation but the last. -/
def wpAnyG (P : Program) (md : Region.Mode) (ops : Array Oper) (Q : Exit → Act → World → Prop) (S : World → Prop) (last : Nat) : Nat → Array Bool → Act → World → Prop
  | 0, listed, a, w => Region.ready md ops listed = [] ∧ Q .normal a w
  | fuel + 1, listed, a, w =>
    (Region.ready md ops listed = [] → Q .normal a w) ∧
    ∀ i ∈ Region.ready md ops listed, wpOp P ops Q i (fun a' w' => (i ≠ last → S w') ∧ wpAnyG P md ops Q S last fuel (listed.setIfInBounds i true) a' w') a w

theorem wpAny_of_G : ∀ (fuel : Nat) (listed : Array Bool) (a : Act) (w : World), wpAnyG P md ops Q S last fuel listed a w → wpAny P md ops Q fuel listed a w
  | 0, _, _, _, h => h
  | fuel + 1, _, _, _, h => ⟨h.1, fun i hi => wpOp_mono (fun a' w' h' => wpAny_of_G fuel _ a' w' h'.2) (h.2 i hi)⟩

def waits (md : Region.Mode) (ops : Array Oper) (last i : Nat) : Bool := ((ops[last]?).map fun o => o.after.any fun e => Region.binds md e && e.on == i).getD false

theorem wpAnyG_first {i : Nat} {oi : Oper} {v : Value} (hi : ops[i]? = some oi) (hsel : ∀ (j : Nat) (o : Oper) cs b, ops[j]? = some o → o.op ≠ .select cs b)
    (hQ : ∀ c a w, Q (.panic c) (a.put oi.dst v) w → Q (.panic c) a w) (hw : waits md ops last i = true) (hne : i ≠ last) :
    ∀ (fuel : Nat) (listed : Array Bool) (a : Act) (w : World),
      (∀ j oj, ops[j]? = some oj → j ≠ i → listed.getD j true = false → (∀ e ∈ oj.after, Region.binds md e = true → e.on ≠ i) → oi.apart ops oj = true) →
      i ∈ Region.ready md ops listed → YieldsIf P ops S oi v a → S w →
      wpAnyG P md ops Q S last fuel (listed.setIfInBounds i true) (a.put oi.dst v) w → wpAnyG P md ops Q S last (fuel + 1) listed a w := by
  intro fuel
  induction fuel with
  | zero =>
    intro listed a w _ hr hy hS H
    refine ⟨fun h => (by rw [h] at hr; cases hr), fun j hj => ?_⟩
    by_cases hji : j = i
    · subst hji; exact hy.wpOp hi hS ⟨fun _ => hS, H⟩
    · have := ready_mono hj hji
      rw [H.1] at this
      cases this
  | succ fuel ih =>
    intro listed a w hfree hr hy hS H
    refine ⟨fun h => (by rw [h] at hr; cases hr), fun j hj => ?_⟩
    by_cases hji : j = i
    · subst hji; exact hy.wpOp hi hS ⟨fun _ => hS, H⟩
    · have h1 := H.2 j (ready_mono hj hji)
      obtain ⟨hjun, oj, hoj, hall⟩ := mem_ready.1 hj
      have hnot : ∀ e ∈ oj.after, Region.binds md e = true → e.on ≠ i := fun e he hb heq => by
        have h1 := hall e he hb
        have h0 := (mem_ready.1 hr).1
        rw [heq] at h1
        rcases Nat.lt_or_ge i listed.size with h' | h'
        · simp [h'] at h0 h1; rw [h0] at h1; cases h1
        · simp [Array.getElem?_eq_none h'] at h1
      have hjl : j ≠ last := by
        intro e
        subst e
        simp only [waits, hoj, Option.map_some, Option.getD_some] at hw
        obtain ⟨e, he, hb⟩ := Array.any_eq_true'.1 hw
        simp only [Bool.and_eq_true, beq_iff_eq] at hb
        exact hnot e he hb.1 hb.2
      have h2 := wpOp_putIf hoj (hfree j oj hoj hji hjun hnot) (fun cs b => hsel i oi cs b hi) (fun cs b => hsel j oj cs b hoj) hQ hy h1
      have hfree' : ∀ k ok, ops[k]? = some ok → k ≠ i → (listed.setIfInBounds j true).getD k true = false →
          (∀ e ∈ ok.after, Region.binds md e = true → e.on ≠ i) → oi.apart ops ok = true := fun k ok hk hki hun hno => by
        refine hfree k ok hk hki ?_ hno
        by_cases hjk : j = k
        · subst hjk; exact hjun
        · rw [getD_set_ne true hjk] at hun; exact hun
      refine wpOp_mono (fun a' w' h3 => ⟨fun _ => h3.2.1 hjl, ih (listed.setIfInBounds j true) a' w' hfree' (ready_mono hr (Ne.symm hji)) h3.1 (h3.2.1 hjl) ?_⟩) h2
      rw [Array.setIfInBounds_comm _ _ hji]
      exact h3.2.2

/-- Take number i first. -/
theorem wpAnyG_take {i : Nat} {oi : Oper} {v : Value} {fuel : Nat} {listed : Array Bool} {a : Act} {w : World} (hi : ops[i]? = some oi)
    (hs : Region.noSelect ops = true) (hf : Region.free md ops listed i = true) (hr : (Region.ready md ops listed).contains i = true) (hwt : waits md ops last i = true) (hne : (i == last) = false)
    (hQ : ∀ c a w, Q (.panic c) (a.put oi.dst v) w → Q (.panic c) a w) (hS : S w) (hy : YieldsIf P ops S oi v a)
    (h : wpAnyG P md ops Q S last fuel (listed.setIfInBounds i true) (a.put oi.dst v) w) : wpAnyG P md ops Q S last (fuel + 1) listed a w :=
  wpAnyG_first hi (Region.noSelect_spec hs) hQ hwt (by simpa using hne) fuel listed a w (Region.free_spec hi hf) (by simpa using hr) hy hS h

/-- The one that may come up alone comes up. -/
theorem wpAnyG_one {i : Nat} {o : Oper} {fuel : Nat} {listed : Array Bool} {a : Act} {w : World} (ho : ops[i]? = some o) (hr : Region.ready md ops listed = [i]) (hne : (i == last) = false)
    (h : ∀ K' : Act → World → Prop, Hid (∀ a w, S w → (S w → wpAnyG P md ops Q S last fuel (listed.setIfInBounds i true) a w) → K' a w) → if Region.wanted o (yielded ops a.tmps) = true then Oper.wp P o a w K' Q else K' (a.put o.dst undef) w) :
    wpAnyG P md ops Q S last (fuel + 1) listed a w := by
  refine ⟨fun h0 => absurd (hr ▸ h0) (by simp), fun j hj => ?_⟩
  rw [hr] at hj
  simp at hj
  subst hj
  exact wpOp_step ho (fun K' hK => h K' (fun a w hS hW => hK a w ⟨fun _ => hS, hW hS⟩))

/-- .. the last one. -/
theorem wpAnyG_last {o : Oper} {fuel : Nat} {listed : Array Bool} {a : Act} {w : World} (ho : ops[last]? = some o) (hr : Region.ready md ops listed = [last]) (hr2 : Region.ready md ops (listed.setIfInBounds last true) = [])
    (h : ∀ K' : Act → World → Prop, Hid (∀ a w, Q .normal a w → K' a w) → if Region.wanted o (yielded ops a.tmps) = true then Oper.wp P o a w K' Q else K' (a.put o.dst undef) w) :
    wpAnyG P md ops Q S last (fuel + 1) listed a w := by
  refine ⟨fun h0 => absurd (hr ▸ h0) (by simp), fun j hj => ?_⟩
  rw [hr] at hj
  simp at hj
  subst hj
  refine wpOp_step ho (fun K' hK => h K' (fun a w hW => hK a w ⟨fun h => absurd rfl h, ?_⟩))
  cases fuel with
  | zero => exact ⟨hr2, hW⟩
  | succ fuel => exact ⟨fun _ => hW, by rw [hr2]; simp⟩

theorem wp_region_G {id : Nat} {a : Act} {w : World} (hm : P.follows .mixedOrders = true) (S : World → Prop) (last : Nat)
    (h : wpAnyG P .any ops Q S last ops.size (Array.replicate ops.size false) a w.drew) : (Code.region id ops true).wp P Q a w :=
  wp_region_any hm (wpAny_of_G _ _ _ _ h)
end
end Go.Proofs.YtpbjpochjagicaaGreatDoorRR
