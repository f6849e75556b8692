/- Walks: the first list of the fewest things that will do. Walks: the closure that picks. Walks: the fewest things that will do. -/
import Derived.Test.YtpbjpochjagicaaGreatDoorRRW15
import Derived.Deep.RegionLawGrows
import Derived.IntWalk
import Derived.Laws.EntriesVeiled
import Derived.WalkMore
import Derived.Deep.LoopGhost
namespace Go.Proofs.YtpbjpochjagicaaGreatDoorRR
open Go.RowKit

theorem clone_any (A : Option Addr) (c : Nat) (l : List Int) (w : World) (hl : Ints w w.heap.size A l) (hlen : l.length ≤ 1000) :
    Calls Tryz.prog 32 #[.slice A l.length c] w fun e w' => ∃ A' c', e = .returned (.slice A' l.length c') ∧ Ints w' w'.heap.size A' l ∧ Below w.heap.size w w' := by
  rcases hl.form with rfl | ⟨b, off, rfl, hb, hc⟩
  · cases A with
    | none =>
      refine (Tryz.slices_Clone_int_nil 0 c w).mono ?_
      rintro e w' ⟨rfl, rfl⟩
      exact ⟨none, 0, rfl, Ints.nil _ _ _, Below.refl _ _⟩
    | some a =>
      refine (Tryz.slices_Clone_int_zero a c w).mono ?_
      rintro e w' ⟨v', rfl, hown, _, hb⟩
      obtain ⟨A', c', rfl⟩ := own_slice hown
      exact ⟨A', c', rfl, Ints.nil _ _ _, hb⟩
  · refine (Tryz.slices_Clone_int b off l.length c l w (Nat.le_refl _) (by omega) (fun j hj => ?_)).mono ?_
    · rw [hc j hj, List.getD_eq_getElem?_getD, List.getElem?_eq_getElem hj]; rfl
    rintro e w' ⟨v', rfl, hown, _, hb⟩
    obtain ⟨A', c', rfl⟩ := own_slice hown
    rw [List.take_length] at hown
    exact ⟨A', c', rfl, OwnInts.ints hown, hb⟩

theorem grown_none {w w' : World} (h : w.grownBy w' none) : Below w.heap.size w w' := ⟨h.os, h.tape, h.output, h.size, fun k hk => h.block k hk (by simp)⟩

/-- 'append(s[:n:n], x)': always a new row. -/
theorem step_grow_ints {P : Program} {ops : Array Oper} {o : Oper} {a : Act} {w : World} {K : Act → World → Prop} {Q : Exit → Act → World → Prop} {E : Prop}
    (hg : o.guard = none) (s x : Operand) (hop : o.op = Op.call { callee := Callee.builtin Builtin.append, args := #[s, x], argTypes := #[23, 23] })
    (ht : P.underlying 23 = some (.slice 3)) (hi : (P.info? 3).map (fun i => (i.zero, i.size, i.bytes)) = some (some (.int .i64 0), 1, 8))
    (A : Option Addr) (xs : List Int) (cap : Nat) (hcap : cap = xs.length) (hs : a.eval s = .slice A xs.length cap) (hnone : A = none → xs = []) (B : Nat) (hr : Ints w B A xs)
    (g c : Nat) (y : Int) (hx : a.eval x = .slice (some ⟨g, 0, none⟩) 1 c) (hc : w.cell? ⟨g, 0, none⟩ = some (.int .i64 y)) (hlen : xs.length ≤ 1000)
    (hK : ∀ g' c' w', Ints w' w'.heap.size (some ⟨g', 0, none⟩) (xs ++ [y]) → xs.length + 1 ≤ c' → Below w.heap.size w w' → K (a.put o.dst (.slice (some ⟨g', 0, none⟩) (xs ++ [y]).length c')) w') :
    if Region.wanted o (yielded ops a.tmps) = true then Oper.wp P o a w K Q else E := by
  obtain ⟨i, h1, h2, h3, h4⟩ := info_parts hi
  have hread := hr.reads
  refine step_append_grows hg s x 23 hop 3 i (.int .i64 0) 1 8 ht h1 h2 h3 h4 rfl (by omega) A xs.length cap (xs.map (Value.int .i64)) hs (fun h => by rw [hcap, hnone h]; simp) (by simp) (fun b hb j u hu => ?_)
    ⟨g, 0, none⟩ 1 c [.int .i64 y] hx rfl (fun j u hu => ?_) (fun u hu => by simp at hu; subst hu; rfl) (by omega) (by simp [maxLen]; omega) (by omega) ?_
  · have hn : 0 < xs.length := by
      have := (List.getElem?_eq_some_iff.1 hu).1
      simp at this; omega
    obtain ⟨ad, hA, _, hcell⟩ := hread.2 hn
    rw [hA] at hb; injection hb with hb; subst hb
    exact hcell j u hu
  · cases j with
    | zero => simp at hu; subst hu; simpa [Addr.add] using hc
    | succ j => simp at hu
  · intro v' w' hown hgrow
    obtain ⟨A2, c2, rfl⟩ := own_slice hown
    have hl : xs.length + 1 = (xs ++ [y]).length := by simp
    have hmap : xs.map (Value.int .i64) ++ [.int .i64 y] = (xs ++ [y]).map (Value.int .i64) := by simp
    rw [hl, hmap] at hown
    rcases hown.2 with ⟨_, h0⟩ | ⟨g', cap', cur, hv, _, _, hnc, _⟩
    · simp at h0
    · injection hv with hv1 hv2 hv3
      subst hv1 hv3
      rw [hl]
      exact hK g' _ w' (OwnInts.ints hown) (by simpa using hnc) (grown_none hgrow)

/-- The closure 'pick' at work: its variables' boxes are the blocks b, b + 1, b + 2. -/
structure PickAt (w0 : World) (allA : Option Addr) (allc : Nat) (all : List Int) (F : FuncId) (q1 q2 q3 q4 : Value) (wr : World) : Prop where
  h0 : wr.heap[w0.heap.size]? = some (.cells #[.slice allA all.length allc] 23 (0, 0))
  h1 : wr.heap[w0.heap.size + 1]? = some (.cells #[.func (.func F) #[] #[q1, q2, q3, q4]] 89 (0, 0))
  h2 : wr.heap[w0.heap.size + 1 + 1]? = some (.cells #[.func (.func 59) #[] #[.pointer (some ⟨w0.heap.size + 1, 0, none⟩), .pointer (some ⟨w0.heap.size, 0, none⟩), .pointer (some ⟨w0.heap.size + 1 + 1, 0, none⟩)]] 120 (0, 0))
  hall : Ints wr w0.heap.size allA all
  bel : Below w0.heap.size w0 wr
theorem PickAt.below {w0 : World} {allA : Option Addr} {allc : Nat} {all : List Int} {F : FuncId} {q1 q2 q3 q4 : Value} {wr w' : World} (h : PickAt w0 allA allc all F q1 q2 q3 q4 wr) {B : Nat} (hb : Below B wr w') (hB : w0.heap.size + 1 + 1 < B) :
    PickAt w0 allA allc all F q1 q2 q3 q4 w' :=
  ⟨blk_below h.h0 hb (by omega), blk_below h.h1 hb (by omega), blk_below h.h2 hb (by omega), h.hall.below (hb.mono (by omega)), h.bel.trans (hb.mono (by omega))⟩

def WillDo (w0 : World) (F : FuncId) (q1 q2 q3 q4 : Value) (all : List Int) (f : List Int → Bool) : Prop :=
  ∀ (wr : World) (A : Option Addr) (c : Nat) (l : List Int), Below w0.heap.size w0 wr → Ints wr wr.heap.size A l → (∀ x ∈ l, x ∈ all) → l.length ≤ all.length →
    Calls Tryz.prog F #[.slice A l.length c, q1, q2, q3, q4] wr fun e w' => e = .returned (.bool (f l)) ∧ Below wr.heap.size wr w'

def PickPost (r : Option (List Int)) (w : World) (e : Ending) (w' : World) : Prop :=
  match r with
  | some l => ∃ A c, e = .returned (.tuple #[.slice A l.length c, .bool true]) ∧ Ints w' w'.heap.size A l ∧ Below w.heap.size w w'
  | none => ∃ A n c, e = .returned (.tuple #[.slice A n c, .bool false]) ∧ Below w.heap.size w w'

def pickVal (f : List Int → Bool) (chosen l : List Int) (m : Nat) : Option (List Int) := ((Pl.lists l m).find? fun k => f (chosen ++ k)).map (chosen ++ ·)

theorem pickVal_zero (f : List Int → Bool) (chosen l : List Int) : pickVal f chosen l 0 = if f chosen then some chosen else none := by
  rw [pickVal, Pl.lists]
  by_cases h : f chosen = true
  · simp [h]
  · simp [h]
theorem find_map_cons (x : Int) (p : List Int → Bool) (k : List (List Int)) : (k.map (x :: ·)).find? p = (k.find? fun l => p (x :: l)).map (x :: ·) := by
  rw [List.find?_map]; rfl
theorem pickVal_succ (f : List Int → Bool) (chosen l : List Int) (x : Int) (m : Nat) : pickVal f chosen (x :: l) (m + 1) = (pickVal f (chosen ++ [x]) l m).or (pickVal f chosen l (m + 1)) := by
  simp only [pickVal, Pl.lists, List.find?_append, find_map_cons]
  cases h : (Pl.lists l m).find? fun k => f (chosen ++ x :: k) with
  | none => simp [h]
  | some k => simp [h]
theorem pickVal_nil (f : List Int → Bool) (chosen : List Int) (m : Nat) : pickVal f chosen [] (m + 1) = none := rfl
end Go.Proofs.YtpbjpochjagicaaGreatDoorRR

namespace Go.Proofs.YtpbjpochjagicaaGreatDoorRR
open Go.RowKit

set_option maxRecDepth 100000 in
set_option maxHeartbeats 4000000 in
theorem pick_zero (w0 : World) (allA : Option Addr) (allc : Nat) (all : List Int) (F : FuncId) (q1 q2 q3 q4 : Value) (f : List Int → Bool)
    (hF : ∀ (x : Value) (wr : World), Sem.run Tryz.prog (callFunc F #[x, q1, q2, q3, q4]) wr = .ok (.enter F #[x, q1, q2, q3, q4]) wr)
    (hW : WillDo w0 F q1 q2 q3 q4 all f) (hal : all.length ≤ 1000) (wr : World) (A : Option Addr) (c : Nat) (chosen : List Int) (from_ : Int)
    (h : PickAt w0 allA allc all F q1 q2 q3 q4 wr) (hr : Ints wr wr.heap.size A chosen) (hlen : chosen.length ≤ all.length) (hin : ∀ x ∈ chosen, x ∈ all) :
    Calls Tryz.prog 59 #[.slice A chosen.length c, .int .i64 from_, .int .i64 0, .pointer (some ⟨w0.heap.size + 1, 0, none⟩), .pointer (some ⟨w0.heap.size, 0, none⟩), .pointer (some ⟨w0.heap.size + 1 + 1, 0, none⟩)] wr (PickPost (if f chosen then some chosen else none) wr) := by
  have hx1 : wr.cell? ⟨w0.heap.size + 1, 0, none⟩ = some (.func (.func F) #[] #[q1, q2, q3, q4]) := blk_cell h.h1 0
  have hs1 : w0.heap.size + 1 < wr.heap.size := lt_of_block h.h1
  have hfin : ∀ (A' : Option Addr) (c' : Nat) (w' : World), Ints w' w'.heap.size A' chosen → Below wr.heap.size wr w' → PickPost (if f chosen then some chosen else none) wr (.returned (.tuple #[.slice A' chosen.length c', .bool (f chosen)])) w' := by
    intro A' c' w' hI hb
    cases hf : f chosen
    · exact ⟨A', _, c', rfl, hb⟩
    · exact ⟨A', c', rfl, hI, hb⟩
  have Hfin := Lib.hid hfin
  have hWc := fun (w' : World) (hb : Below wr.heap.size wr w') => hW w' A c chosen (h.bel.trans (hb.mono (by omega))) ((hr.below hb).more hb.size) hin hlen
  have hCc := fun (w' : World) (hb : Below wr.heap.size wr w') => clone_any A c chosen w' ((hr.below hb).more hb.size) (by omega)
  have HW := Lib.hid hWc; have HC := Lib.hid hCc
  have hkeep : ∀ w', Below wr.heap.size wr w' → w'.cell? ⟨w0.heap.size + 1, 0, none⟩ = some (.func (.func F) #[] #[q1, q2, q3, q4]) := fun w' hb => (hb.cell (p := ⟨w0.heap.size + 1, 0, none⟩) hs1).trans hx1
  have HK := Lib.hid hkeep
  have hb0 : Below wr.heap.size wr wr.drew := ⟨rfl, rfl, rfl, Nat.le_refl _, fun _ _ => rfl⟩
  have Hb0 := Lib.hid hb0
  have HPost : Hid ((fun e w' => PickPost (if f chosen then some chosen else none) wr e w') = PickPost (if f chosen then some chosen else none) wr) := rfl
  generalize PickPost (if f chosen then some chosen else none) wr = Post at Hfin ⊢
  clear hfin hWc hCc hkeep hb0 hW h hr HPost
  go_enter Tryz.func59, Tryz.ntmps59
  go_wp2_with fail
  go_region_held3 (fun w' => w'.cell? ⟨w0.heap.size + 1, 0, none⟩ = some (.func (.func F) #[] #[q1, q2, q3, q4]))
    (first | go_keep | exact hS)
    (first
      | (go_at_call 32; refine (HC.out _ Hb0.out).mono ?_; rintro e w1 ⟨A', c', rfl, hI, hb1⟩; have hbb := Hb0.out.trans hb1; have hS := HK.out _ hbb)
      | (go_at_call 32; refine (HC.out _ hbw).mono ?_; rintro e w2 ⟨A', c', rfl, hI, hb2⟩; have hbb := hbw.trans (hb2.mono hbw.size); have hS := HK.out _ hbb)
      | (refine (HW.out _ Hb0.out).mono ?_; rintro e w1 ⟨rfl, hb1⟩; have hbw := Hb0.out.trans hb1; have hS := HK.out _ hbw)
      | (refine (HW.out _ hbb).mono ?_; rintro e w2 ⟨rfl, hb2⟩; have hbw := hbb.trans (hb2.mono hbb.size); have hI2 := (hI.below hb2).more hb2.size; have hS := HK.out _ hbw))
  all_goals go_wp2_with fail
  all_goals first | exact Hfin.out A' c' _ hI2 hbw | exact Hfin.out A' c' _ hI hbb
set_option maxRecDepth 100000 in
set_option maxHeartbeats 8000000 in
theorem pick_any (w0 : World) (allA : Option Addr) (allc : Nat) (all : List Int) (F : FuncId) (q1 q2 q3 q4 : Value) (f : List Int → Bool)
    (hF : ∀ (x : Value) (ws : World), Sem.run Tryz.prog (callFunc F #[x, q1, q2, q3, q4]) ws = .ok (.enter F #[x, q1, q2, q3, q4]) ws)
    (hW : WillDo w0 F q1 q2 q3 q4 all f) (hal : all.length ≤ 1000) : ∀ (m : Nat) (ws : World) (A : Option Addr) (c : Nat) (chosen : List Int) (from_ : Nat),
    PickAt w0 allA allc all F q1 q2 q3 q4 ws → Ints ws ws.heap.size A chosen → chosen.length ≤ c → (A = none → chosen = [] ∧ c = 0) → chosen.length ≤ from_ → from_ ≤ all.length → (∀ x ∈ chosen, x ∈ all) → m ≤ 1000 →
    Calls Tryz.prog 59 #[.slice A chosen.length c, .int .i64 from_, .int .i64 m, .pointer (some ⟨w0.heap.size + 1, 0, none⟩), .pointer (some ⟨w0.heap.size, 0, none⟩), .pointer (some ⟨w0.heap.size + 1 + 1, 0, none⟩)] ws
      (PickPost (pickVal f chosen (all.drop from_) m) ws) := by
  intro m
  induction m with
  | zero =>
    intro ws A c chosen from_ h hr hc hA hl hf hin _
    rw [pickVal_zero]
    exact pick_zero w0 allA allc all F q1 q2 q3 q4 f hF hW hal ws A c chosen from_ h hr (by omega) hin
  | succ m ih =>
    intro ws A c chosen from_ h hr hc hA hl hf hin hm
    have HIH := Lib.hid ih; clear ih
    have HW := Lib.hid hW; clear hW
    have hs2 : w0.heap.size + 1 + 1 < ws.heap.size := lt_of_block h.h2
    have hm1 : ((m + 1 : Nat) : Int) = (m : Int) + 1 := by omega
    rw [hm1]
    clear hm1
    have hb0 : ((m : Int) + 1 == 0) = false := by rw [beq_eq_false_iff_ne]; omega
    generalize hR : pickVal f chosen (all.drop from_) (m + 1) = R
    have HR := Lib.hid hR; clear hR
    have H := Lib.hid h
    have Hr := Lib.hid hr; have Hin := Lib.hid hin
    clear hr hin h
    cases A with
    | none =>
      obtain ⟨rfl, rfl⟩ := hA rfl
      simp only [List.length_nil]
      go_enter Tryz.func59, Tryz.ntmps59
      go_wp2_with fail
      go_loopw [11] (fun i wl => ∃ k : Nat, from_ ≤ k ∧ k ≤ all.length ∧ i = .int .i64 k ∧ Hid (pickVal f ([] : List Int) (all.drop k) (m + 1) = R) ∧ Below ws.heap.size ws wl) (fun i _ => all.length - (intOf i).toNat)
      case atStart => exact ⟨from_, Nat.le_refl _, hf, rfl, HR, Below.refl _ _⟩
      case round =>
        obtain ⟨k, hfk, hk, rfl, hN, hb⟩ := hrel
        have hP := H.out.below hb hs2
        have x0 : wr.cell? ⟨w0.heap.size, 0, none⟩ = some (.slice allA all.length allc) := blk_cell hP.h0 0
        have x1 : wr.cell? ⟨w0.heap.size + 1 + 1, 0, none⟩ = some (.func (.func 59) #[] #[.pointer (some ⟨w0.heap.size + 1, 0, none⟩), .pointer (some ⟨w0.heap.size, 0, none⟩), .pointer (some ⟨w0.heap.size + 1 + 1, 0, none⟩)]) := blk_cell hP.h2 0
        have hsl : w0.heap.size + 1 + 1 < wr.heap.size := lt_of_block hP.h2
        by_cases hkl : k < all.length
        · have hdrop : all.drop k = all[k] :: all.drop (k + 1) := List.drop_eq_getElem_cons hkl
          obtain ⟨b, off, hAll, hbb, hcb⟩ : ∃ b off, allA = some ⟨b, off, none⟩ ∧ b < w0.heap.size ∧ wr.cell? ⟨b, off + k, none⟩ = some (.int .i64 all[k]) := hP.hall k all[k] (List.getElem?_eq_getElem hkl)
          have hpos : 0 < all.length := by omega
          have hxin : all[k] ∈ all := List.getElem_mem hkl
          have hki : (k : Int) < (all.length : Int) := by omega
          have hNx := hN.out
          rw [hdrop, pickVal_succ] at hNx
          generalize all[k] = x at hcb hxin hNx
          have hbA : Below wr.heap.size wr (wr.alloc (.cells #[.int .i64 x] 3)).drew := by
            have := (Below.refl wr.heap.size wr).alloc (Nat.le_refl _) (.cells #[.int .i64 x] 3)
            exact ⟨this.os, this.tape, this.output, this.size, this.block⟩
          have hk3 : ∀ w', Below wr.heap.size wr w' → w'.cell? ⟨w0.heap.size, 0, none⟩ = some (.slice (some ⟨b, off, none⟩) all.length allc) ∧ w'.cell? ⟨w0.heap.size + 1 + 1, 0, none⟩ = some (.func (.func 59) #[] #[.pointer (some ⟨w0.heap.size + 1, 0, none⟩), .pointer (some ⟨w0.heap.size, 0, none⟩), .pointer (some ⟨w0.heap.size + 1 + 1, 0, none⟩)]) ∧ w'.cell? ⟨b, off + k, none⟩ = some (.int .i64 x) := by
            intro w' hb'
            have hc' : ∀ q i, q < wr.heap.size → w'.cell? ⟨q, i, none⟩ = wr.cell? ⟨q, i, none⟩ := fun q i hq => hb'.cell (p := ⟨q, i, none⟩) hq
            rw [hAll] at x0
            exact ⟨(hc' _ _ (by omega)).trans x0, (hc' _ _ hsl).trans x1, (hc' _ _ (by omega)).trans hcb⟩
          have hbw : b < wr.heap.size := by omega
          have HK3 := Lib.hid hk3; have HbA := Lib.hid hbA; have HP := Lib.hid hP; have HNx := Lib.hid hNx; have Hb := Lib.hid hb
          have Hxin := Lib.hid hxin
          subst hAll
          clear hk3 hbA hP hNx hb hxin hN hdrop
          have hrr := Lib.hid ((Hr.out.below Hb.out).more Hb.out.size)
          have hcA : Hid ((wr.alloc (.cells #[.int .i64 x] 3)).drew.cell? ⟨wr.heap.size, 0, none⟩ = some (.int .i64 x)) := blk_cell (heap_alloc_new wr (.cells #[.int .i64 x] 3)) 0
          have Hw1 : Hid (IntKind.i64.wrap ((k : Int) + 1) = (k : Int) + 1) := IntWalk.i64_in _ (by omega)
          have Hw2 : Hid (IntKind.i64.wrap (m : Int) = (m : Int)) := IntWalk.i64_in _ (by omega)
          have hlc : Hid (([] : List Int).length ≤ 1000) := by show _ ≤ _; omega
          have HCall : Hid (∀ (w2 : World) (g' c' : Nat), Ints w2 w2.heap.size (some ⟨g', 0, none⟩) (([] : List Int) ++ [x]) → ([] : List Int).length + 1 ≤ c' → Below wr.heap.size wr w2 →
              Calls Tryz.prog 59 #[.slice (some ⟨g', 0, none⟩) (([] : List Int).length + 1) c', .int .i64 ((k : Int) + 1), .int .i64 m, .pointer (some ⟨w0.heap.size + 1, 0, none⟩), .pointer (some ⟨w0.heap.size, 0, none⟩), .pointer (some ⟨w0.heap.size + 1 + 1, 0, none⟩)] w2 (PickPost (pickVal f (([] : List Int) ++ [x]) (all.drop (k + 1)) m) w2)) := by
            intro w2 g' c' hI2 hc2 hb2
            have := HIH.out w2 (some ⟨g', 0, none⟩) c' (([] : List Int) ++ [x]) (k + 1) (HP.out.below hb2 hsl) hI2 (by simp; simpa using hc2) (by simp) (by simp only [List.length_append, List.length_cons, List.length_nil] at hl ⊢; omega) (by omega) (fun y hy => by
              rcases List.mem_append.1 hy with hy | hy
              · exact Hin.out y hy
              · simp at hy; subst hy; exact Hxin.out) (by omega)
            simpa using this
          clear HIH HP H
          cases hq : pickVal f (([] : List Int) ++ [x]) (all.drop (k + 1)) m with
          | none =>
            rw [hq] at HCall HNx
            clear hq
            go_wp2_with fail
            go_region_held3 (fun w' => w'.cell? ⟨w0.heap.size, 0, none⟩ = some (.slice (some ⟨b, off, none⟩) all.length allc) ∧ w'.cell? ⟨w0.heap.size + 1 + 1, 0, none⟩ = some (.func (.func 59) #[] #[.pointer (some ⟨w0.heap.size + 1, 0, none⟩), .pointer (some ⟨w0.heap.size, 0, none⟩), .pointer (some ⟨w0.heap.size + 1 + 1, 0, none⟩)]) ∧ w'.cell? ⟨b, off + k, none⟩ = some (.int .i64 x))
              (first | go_keep | exact hS | exact HK3.out _ HbA.out)
              (first
                | (go_at_call 59; rw [Hw1.out, Hw2.out]; refine hcl.mono ?_; rintro e w3 ⟨A3, n3, c3, rfl, hb3⟩; have hbZ := hbW.trans (hb3.mono hbW.size); have hS := HK3.out _ hbZ)
                | (refine step_grow_ints (by rfl) (.tmp 35) (.tmp 40) (by rfl) Tryz.underlying23 int_info none ([] : List Int) ([] : List Int).length rfl (by rfl) (by simp) wr.heap.size (hrr.out.below HbA.out) wr.heap.size 1 x (by rfl) hcA.out hlc.out ?_; intro g' c' w2 hI2 hc2 hb2; have hbW := HbA.out.trans (hb2.mono HbA.out.size); have hS := HK3.out _ hbW; have hcl := HCall.out _ g' c' hI2 hc2 hbW))
            go_wp2_with fail
            go_roundw
            case rel => exact ⟨k + 1, by omega, by omega, by go_num, HNx, Hb.out.trans (hbZ.mono Hb.out.size)⟩
            case measure => simp [intOf]; omega
          | some l =>
            rw [hq] at HCall HNx
            have hRl : R = some l := HNx.out.symm
            clear hq HNx
            subst hRl
            go_wp2_with fail
            go_region_held3 (fun w' => w'.cell? ⟨w0.heap.size, 0, none⟩ = some (.slice (some ⟨b, off, none⟩) all.length allc) ∧ w'.cell? ⟨w0.heap.size + 1 + 1, 0, none⟩ = some (.func (.func 59) #[] #[.pointer (some ⟨w0.heap.size + 1, 0, none⟩), .pointer (some ⟨w0.heap.size, 0, none⟩), .pointer (some ⟨w0.heap.size + 1 + 1, 0, none⟩)]) ∧ w'.cell? ⟨b, off + k, none⟩ = some (.int .i64 x))
              (first | go_keep | exact hS | exact HK3.out _ HbA.out)
              (first
                | (go_at_call 59; rw [Hw1.out, Hw2.out]; refine hcl.mono ?_; rintro e w3 ⟨A3, c3, rfl, hI3, hb3⟩; have hbZ := hbW.trans (hb3.mono hbW.size); have hS := HK3.out _ hbZ)
                | (refine step_grow_ints (by rfl) (.tmp 35) (.tmp 40) (by rfl) Tryz.underlying23 int_info none ([] : List Int) ([] : List Int).length rfl (by rfl) (by simp) wr.heap.size (hrr.out.below HbA.out) wr.heap.size 1 x (by rfl) hcA.out hlc.out ?_; intro g' c' w2 hI2 hc2 hb2; have hbW := HbA.out.trans (hb2.mono HbA.out.size); have hS := HK3.out _ hbW; have hcl := HCall.out _ g' c' hI2 hc2 hbW))
            go_wp2_with fail
            go_ret2
            exact ⟨A3, c3, rfl, hI3, Hb.out.trans (hbZ.mono Hb.out.size)⟩
        · have hnil : all.drop k = [] := List.drop_eq_nil_iff.2 (by omega)
          have hRn : R = none := by rw [← hN.out, hnil]; rfl
          have hlt : ¬ (k : Int) < (all.length : Int) := by omega
          have hbl := Lib.hid hb
          clear hN hb hP
          subst hRn
          go_wp2_with fail
          go_ret2
          exact ⟨none, 0, 0, rfl, hbl.out⟩
    | some ad =>
      go_enter Tryz.func59, Tryz.ntmps59
      go_wp2_with fail
      go_loopw [11] (fun i wl => ∃ k : Nat, from_ ≤ k ∧ k ≤ all.length ∧ i = .int .i64 k ∧ Hid (pickVal f chosen (all.drop k) (m + 1) = R) ∧ Below ws.heap.size ws wl) (fun i _ => all.length - (intOf i).toNat)
      case atStart => exact ⟨from_, Nat.le_refl _, hf, rfl, HR, Below.refl _ _⟩
      case round =>
        obtain ⟨k, hfk, hk, rfl, hN, hb⟩ := hrel
        have hP := H.out.below hb hs2
        have x0 : wr.cell? ⟨w0.heap.size, 0, none⟩ = some (.slice allA all.length allc) := blk_cell hP.h0 0
        have x1 : wr.cell? ⟨w0.heap.size + 1 + 1, 0, none⟩ = some (.func (.func 59) #[] #[.pointer (some ⟨w0.heap.size + 1, 0, none⟩), .pointer (some ⟨w0.heap.size, 0, none⟩), .pointer (some ⟨w0.heap.size + 1 + 1, 0, none⟩)]) := blk_cell hP.h2 0
        have hsl : w0.heap.size + 1 + 1 < wr.heap.size := lt_of_block hP.h2
        by_cases hkl : k < all.length
        · have hdrop : all.drop k = all[k] :: all.drop (k + 1) := List.drop_eq_getElem_cons hkl
          obtain ⟨b, off, hAll, hbb, hcb⟩ : ∃ b off, allA = some ⟨b, off, none⟩ ∧ b < w0.heap.size ∧ wr.cell? ⟨b, off + k, none⟩ = some (.int .i64 all[k]) := hP.hall k all[k] (List.getElem?_eq_getElem hkl)
          have hpos : 0 < all.length := by omega
          have hxin : all[k] ∈ all := List.getElem_mem hkl
          have hki : (k : Int) < (all.length : Int) := by omega
          have hNx := hN.out
          rw [hdrop, pickVal_succ] at hNx
          generalize all[k] = x at hcb hxin hNx
          have hbA : Below wr.heap.size wr (wr.alloc (.cells #[.int .i64 x] 3)).drew := by
            have := (Below.refl wr.heap.size wr).alloc (Nat.le_refl _) (.cells #[.int .i64 x] 3)
            exact ⟨this.os, this.tape, this.output, this.size, this.block⟩
          have hk3 : ∀ w', Below wr.heap.size wr w' → w'.cell? ⟨w0.heap.size, 0, none⟩ = some (.slice (some ⟨b, off, none⟩) all.length allc) ∧ w'.cell? ⟨w0.heap.size + 1 + 1, 0, none⟩ = some (.func (.func 59) #[] #[.pointer (some ⟨w0.heap.size + 1, 0, none⟩), .pointer (some ⟨w0.heap.size, 0, none⟩), .pointer (some ⟨w0.heap.size + 1 + 1, 0, none⟩)]) ∧ w'.cell? ⟨b, off + k, none⟩ = some (.int .i64 x) := by
            intro w' hb'
            have hc' : ∀ q i, q < wr.heap.size → w'.cell? ⟨q, i, none⟩ = wr.cell? ⟨q, i, none⟩ := fun q i hq => hb'.cell (p := ⟨q, i, none⟩) hq
            rw [hAll] at x0
            exact ⟨(hc' _ _ (by omega)).trans x0, (hc' _ _ hsl).trans x1, (hc' _ _ (by omega)).trans hcb⟩
          have hbw : b < wr.heap.size := by omega
          have HK3 := Lib.hid hk3; have HbA := Lib.hid hbA; have HP := Lib.hid hP; have HNx := Lib.hid hNx; have Hb := Lib.hid hb
          have Hxin := Lib.hid hxin
          subst hAll
          clear hk3 hbA hP hNx hb hxin hN hdrop
          have hrr := Lib.hid ((Hr.out.below Hb.out).more Hb.out.size)
          have hcA : Hid ((wr.alloc (.cells #[.int .i64 x] 3)).drew.cell? ⟨wr.heap.size, 0, none⟩ = some (.int .i64 x)) := blk_cell (heap_alloc_new wr (.cells #[.int .i64 x] 3)) 0
          have Hw1 : Hid (IntKind.i64.wrap ((k : Int) + 1) = (k : Int) + 1) := IntWalk.i64_in _ (by omega)
          have Hw2 : Hid (IntKind.i64.wrap (m : Int) = (m : Int)) := IntWalk.i64_in _ (by omega)
          have hlc : Hid (chosen.length ≤ 1000) := by show _ ≤ _; omega
          have hci : (chosen.length : Int) ≤ (c : Int) := by omega
          have HCall : Hid (∀ (w2 : World) (g' c' : Nat), Ints w2 w2.heap.size (some ⟨g', 0, none⟩) (chosen ++ [x]) → chosen.length + 1 ≤ c' → Below wr.heap.size wr w2 →
              Calls Tryz.prog 59 #[.slice (some ⟨g', 0, none⟩) (chosen.length + 1) c', .int .i64 ((k : Int) + 1), .int .i64 m, .pointer (some ⟨w0.heap.size + 1, 0, none⟩), .pointer (some ⟨w0.heap.size, 0, none⟩), .pointer (some ⟨w0.heap.size + 1 + 1, 0, none⟩)] w2 (PickPost (pickVal f (chosen ++ [x]) (all.drop (k + 1)) m) w2)) := by
            intro w2 g' c' hI2 hc2 hb2
            have := HIH.out w2 (some ⟨g', 0, none⟩) c' (chosen ++ [x]) (k + 1) (HP.out.below hb2 hsl) hI2 (by simp; simpa using hc2) (by simp) (by simp only [List.length_append, List.length_cons, List.length_nil] at hl ⊢; omega) (by omega) (fun y hy => by
              rcases List.mem_append.1 hy with hy | hy
              · exact Hin.out y hy
              · simp at hy; subst hy; exact Hxin.out) (by omega)
            simpa using this
          clear HIH HP H
          cases hq : pickVal f (chosen ++ [x]) (all.drop (k + 1)) m with
          | none =>
            rw [hq] at HCall HNx
            clear hq
            go_wp2_with fail
            go_region_held3 (fun w' => w'.cell? ⟨w0.heap.size, 0, none⟩ = some (.slice (some ⟨b, off, none⟩) all.length allc) ∧ w'.cell? ⟨w0.heap.size + 1 + 1, 0, none⟩ = some (.func (.func 59) #[] #[.pointer (some ⟨w0.heap.size + 1, 0, none⟩), .pointer (some ⟨w0.heap.size, 0, none⟩), .pointer (some ⟨w0.heap.size + 1 + 1, 0, none⟩)]) ∧ w'.cell? ⟨b, off + k, none⟩ = some (.int .i64 x))
              (first | go_keep | exact hS | exact HK3.out _ HbA.out)
              (first
                | (go_at_call 59; rw [Hw1.out, Hw2.out]; refine hcl.mono ?_; rintro e w3 ⟨A3, n3, c3, rfl, hb3⟩; have hbZ := hbW.trans (hb3.mono hbW.size); have hS := HK3.out _ hbZ)
                | (refine step_grow_ints (by rfl) (.tmp 35) (.tmp 40) (by rfl) Tryz.underlying23 int_info (some ad) chosen chosen.length rfl (by rfl) (by simp) wr.heap.size (hrr.out.below HbA.out) wr.heap.size 1 x (by rfl) hcA.out hlc.out ?_; intro g' c' w2 hI2 hc2 hb2; have hbW := HbA.out.trans (hb2.mono HbA.out.size); have hS := HK3.out _ hbW; have hcl := HCall.out _ g' c' hI2 hc2 hbW))
            go_wp2_with fail
            go_roundw
            case rel => exact ⟨k + 1, by omega, by omega, by go_num, HNx, Hb.out.trans (hbZ.mono Hb.out.size)⟩
            case measure => simp [intOf]; omega
          | some l =>
            rw [hq] at HCall HNx
            have hRl : R = some l := HNx.out.symm
            clear hq HNx
            subst hRl
            go_wp2_with fail
            go_region_held3 (fun w' => w'.cell? ⟨w0.heap.size, 0, none⟩ = some (.slice (some ⟨b, off, none⟩) all.length allc) ∧ w'.cell? ⟨w0.heap.size + 1 + 1, 0, none⟩ = some (.func (.func 59) #[] #[.pointer (some ⟨w0.heap.size + 1, 0, none⟩), .pointer (some ⟨w0.heap.size, 0, none⟩), .pointer (some ⟨w0.heap.size + 1 + 1, 0, none⟩)]) ∧ w'.cell? ⟨b, off + k, none⟩ = some (.int .i64 x))
              (first | go_keep | exact hS | exact HK3.out _ HbA.out)
              (first
                | (go_at_call 59; rw [Hw1.out, Hw2.out]; refine hcl.mono ?_; rintro e w3 ⟨A3, c3, rfl, hI3, hb3⟩; have hbZ := hbW.trans (hb3.mono hbW.size); have hS := HK3.out _ hbZ)
                | (refine step_grow_ints (by rfl) (.tmp 35) (.tmp 40) (by rfl) Tryz.underlying23 int_info (some ad) chosen chosen.length rfl (by rfl) (by simp) wr.heap.size (hrr.out.below HbA.out) wr.heap.size 1 x (by rfl) hcA.out hlc.out ?_; intro g' c' w2 hI2 hc2 hb2; have hbW := HbA.out.trans (hb2.mono HbA.out.size); have hS := HK3.out _ hbW; have hcl := HCall.out _ g' c' hI2 hc2 hbW))
            go_wp2_with fail
            go_ret2
            exact ⟨A3, c3, rfl, hI3, Hb.out.trans (hbZ.mono Hb.out.size)⟩
        · have hnil : all.drop k = [] := List.drop_eq_nil_iff.2 (by omega)
          have hRn : R = none := by rw [← hN.out, hnil]; rfl
          have hlt : ¬ (k : Int) < (all.length : Int) := by omega
          have hbl := Lib.hid hb
          clear hN hb hP
          subst hRn
          go_wp2_with fail
          go_ret2
          exact ⟨none, 0, 0, rfl, hbl.out⟩
end Go.Proofs.YtpbjpochjagicaaGreatDoorRR

namespace Go.Proofs.YtpbjpochjagicaaGreatDoorRR
open Go.RowKit

theorem pickVal_start (f : List Int → Bool) (l : List Int) (m : Nat) : pickVal f [] l m = (Pl.lists l m).find? f := by
  rw [pickVal]
  have : (fun k => f ([] ++ k)) = f := by funext k; simp
  rw [this]
  cases (Pl.lists l m).find? f <;> simp
theorem fewestFrom_succ (all : List Int) (f : List Int → Bool) (k m : Nat) : Pl.fewestFrom all f (k + 1) m = (pickVal f [] all m).or (Pl.fewestFrom all f k (m + 1)) := by
  rw [Pl.fewestFrom, pickVal_start]
  cases (Pl.lists all m).find? f <;> rfl

set_option maxRecDepth 100000 in
set_option maxHeartbeats 4000000 in
theorem fewest_any (allA : Option Addr) (allc : Nat) (all : List Int) (F : FuncId) (q1 q2 q3 q4 : Value) (f : List Int → Bool) (w : World)
    (hF : ∀ (x : Value) (ws : World), Sem.run Tryz.prog (callFunc F #[x, q1, q2, q3, q4]) ws = .ok (.enter F #[x, q1, q2, q3, q4]) ws)
    (hW : WillDo w F q1 q2 q3 q4 all f) (hal : all.length ≤ 900) (hall : Ints w w.heap.size allA all) :
    Calls Tryz.prog 39 #[.slice allA all.length allc, .func (.func F) #[] #[q1, q2, q3, q4]] w (PickPost (Pl.fewest all f) w) := by
  have hPick := pick_any w allA allc all F q1 q2 q3 q4 f hF hW (by omega)
  have HPick := Lib.hid hPick
  clear hPick hW hF
  have hb : Below w.heap.size w (((w.alloc (.cells #[.slice allA all.length allc] 23)).alloc (.cells #[.func (.func F) #[] #[q1, q2, q3, q4]] 89)).alloc (.cells #[.func (.func 59) #[] #[.pointer (some ⟨w.heap.size + 1, 0, none⟩), .pointer (some ⟨w.heap.size, 0, none⟩), .pointer (some ⟨w.heap.size + 1 + 1, 0, none⟩)]] 120)) :=
    (((Below.refl _ _).alloc (Nat.le_refl _) _).alloc (by simp) _).alloc (by simp; omega) _
  have hAt : PickAt w allA allc all F q1 q2 q3 q4 (((w.alloc (.cells #[.slice allA all.length allc] 23)).alloc (.cells #[.func (.func F) #[] #[q1, q2, q3, q4]] 89)).alloc (.cells #[.func (.func 59) #[] #[.pointer (some ⟨w.heap.size + 1, 0, none⟩), .pointer (some ⟨w.heap.size, 0, none⟩), .pointer (some ⟨w.heap.size + 1 + 1, 0, none⟩)]] 120)) := by
    obtain ⟨M1, M0, M2⟩ := mid_blk w #[.slice allA all.length allc] #[.func (.func F) #[] #[q1, q2, q3, q4]] #[.func (.func 59) #[] #[.pointer (some ⟨w.heap.size + 1, 0, none⟩), .pointer (some ⟨w.heap.size, 0, none⟩), .pointer (some ⟨w.heap.size + 1 + 1, 0, none⟩)]] 23 89 120
    exact ⟨M0, M1, M2, hall.below hb, hb⟩
  have HAt := Lib.hid hAt
  generalize hR : Pl.fewest all f = R
  have HR : Hid (Pl.fewestFrom all f (all.length + 1) 0 = R) := hR
  clear hAt hb hR hall
  go_enter Tryz.func39, Tryz.ntmps39
  go_wp2_with fail
  go_step3
  go_wp2_with fail
  go_step3
  go_wp2_with fail
  go_loopw [7] (fun i wr => ∃ m k : Nat, m + k = all.length + 1 ∧ i = .int .i64 m ∧ Hid (Pl.fewestFrom all f k m = R) ∧ Hid (PickAt w allA allc all F q1 q2 q3 q4 wr)) (fun i _ => all.length + 1 - (intOf i).toNat)
  case atStart => exact ⟨0, all.length + 1, by omega, rfl, HR, HAt⟩
  case round =>
    obtain ⟨m, k, hmk, rfl, hN, hP⟩ := hrel
    clear HR HAt
    have x0 : wr.cell? ⟨w.heap.size, 0, none⟩ = some (.slice allA all.length allc) := blk_cell hP.out.h0 0
    have x2 : wr.cell? ⟨w.heap.size + 1 + 1, 0, none⟩ = some (.func (.func 59) #[] #[.pointer (some ⟨w.heap.size + 1, 0, none⟩), .pointer (some ⟨w.heap.size, 0, none⟩), .pointer (some ⟨w.heap.size + 1 + 1, 0, none⟩)]) := blk_cell hP.out.h2 0
    have hs2 : w.heap.size + 1 + 1 < wr.heap.size := lt_of_block hP.out.h2
    rcases k with _ | k
    · have hRn : R = none := hN.out.symm
      have hlt : (all.length : Int) < (m : Int) := by omega
      have hbl := Lib.hid hP.out.bel
      clear hN hP HPick
      subst hRn
      go_wp2_with fail
      go_ret2
      exact ⟨none, 0, 0, rfl, hbl.out⟩
    · have hnlt : ¬ (all.length : Int) < (m : Int) := by omega
      have hst := hN.out
      rw [fewestFrom_succ] at hst
      have hcall := HPick.out m wr none 0 [] 0 hP.out (Ints.nil _ _ _) (by simp) (by simp) (by simp) (by omega) (by simp) (by omega)
      simp only [List.drop_zero, List.length_nil, Int.natCast_zero] at hcall
      cases hq : pickVal f [] all m with
      | none =>
        rw [hq] at hcall hst
        have HN : Hid (Pl.fewestFrom all f k (m + 1) = R) := hst
        have Hcall := Lib.hid hcall
        clear hcall hst hN hq HPick
        go_wp2_with (go_at_call 59; refine Hcall.out.mono ?_; rintro e w3 ⟨A3, n3, c3, rfl, hb3⟩)
        go_roundw
        case rel => exact ⟨m + 1, k, by omega, by go_num, HN, hP.out.below hb3 hs2⟩
        case measure => simp [intOf]; omega
      | some l =>
        rw [hq] at hcall hst
        have hRl : R = some l := hst.symm
        have Hcall := Lib.hid hcall
        clear hcall hst hN hq HPick
        subst hRl
        go_wp2_with (go_at_call 59; refine Hcall.out.mono ?_; rintro e w3 ⟨A3, c3, rfl, hI3, hb3⟩)
        go_ret2
        exact ⟨A3, c3, rfl, hI3, hP.out.bel.trans (hb3.mono (by omega))⟩
end Go.Proofs.YtpbjpochjagicaaGreatDoorRR
