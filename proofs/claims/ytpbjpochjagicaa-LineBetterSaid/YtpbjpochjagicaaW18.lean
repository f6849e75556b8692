/- Walks: the closure that picks. -/
import Derived.Test.YtpbjpochjagicaaW17
import Derived.IntWalk
namespace Go.Proofs.Ytpbjpochjagicaa
open Go.RowKit

set_option maxRecDepth 100000 in
set_option maxHeartbeats 4000000 in
theorem pick_zero (w0 : World) (allA : Option Addr) (allc : Nat) (all : List Int) (F : FuncId) (q1 q2 q3 q4 : Value) (f : List Int → Bool)
    (hF : ∀ (x : Value) (wr : World), Sem.run Try.prog (callFunc F #[x, q1, q2, q3, q4]) wr = .ok (.enter F #[x, q1, q2, q3, q4]) wr)
    (hW : WillDo w0 F q1 q2 q3 q4 all f) (hal : all.length ≤ 1000) (wr : World) (A : Option Addr) (c : Nat) (chosen : List Int) (from_ : Int)
    (h : PickAt w0 allA allc all F q1 q2 q3 q4 wr) (hr : Ints wr wr.heap.size A chosen) (hlen : chosen.length ≤ all.length) (hin : ∀ x ∈ chosen, x ∈ all) :
    Calls Try.prog 104 #[.slice A chosen.length c, .int .i64 from_, .int .i64 0, .pointer (some ⟨w0.heap.size + 1, 0, none⟩), .pointer (some ⟨w0.heap.size, 0, none⟩), .pointer (some ⟨w0.heap.size + 1 + 1, 0, none⟩)] wr (PickPost (if f chosen then some chosen else none) wr) := by
  have hx1 : wr.cell? ⟨w0.heap.size + 1, 0, none⟩ = some (.func (.func F) #[] #[q1, q2, q3, q4]) := blk_cell h.h1 0
  have hs1 : w0.heap.size + 1 < wr.heap.size := lt_of_block h.h1
  have hfin : ∀ (A' : Option Addr) (c' : Nat) (w' : World), Ints w' w'.heap.size A' chosen → Below wr.heap.size wr w' → PickPost (if f chosen then some chosen else none) wr (.returned (.tuple #[.slice A' chosen.length c', .bool (f chosen)])) w' := by
    intro A' c' w' hI hb
    cases hf : f chosen
    · exact ⟨A', _, c', rfl, hb⟩
    · exact ⟨A', c', rfl, hI, hb⟩
  have Hfin := Lib.hid hfin
  have hWc := fun (w' : World) (hb : Below wr.heap.size wr w') => hW w' A c chosen (h.bel.trans (hb.mono (by omega))) ((hr.below hb).more hb.size) hin hlen
  have hCc := fun (w' : World) (hb : Below wr.heap.size wr w') => clone_any A c chosen w' ((hr.below hb).more hb.size) (by omega)
  have HW := Lib.hid hWc; have HC := Lib.hid hCc
  have hkeep : ∀ w', Below wr.heap.size wr w' → w'.cell? ⟨w0.heap.size + 1, 0, none⟩ = some (.func (.func F) #[] #[q1, q2, q3, q4]) := fun w' hb => (hb.cell (p := ⟨w0.heap.size + 1, 0, none⟩) hs1).trans hx1
  have HK := Lib.hid hkeep
  have hb0 : Below wr.heap.size wr wr.drew := ⟨rfl, rfl, rfl, Nat.le_refl _, fun _ _ => rfl⟩
  have Hb0 := Lib.hid hb0
  have HPost : Hid ((fun e w' => PickPost (if f chosen then some chosen else none) wr e w') = PickPost (if f chosen then some chosen else none) wr) := rfl
  generalize PickPost (if f chosen then some chosen else none) wr = Post at Hfin ⊢
  clear hfin hWc hCc hkeep hb0 hW h hr HPost
  go_enter Try.func104, Try.ntmps104
  go_wp2_with fail
  go_region_held3 (fun w' => w'.cell? ⟨w0.heap.size + 1, 0, none⟩ = some (.func (.func F) #[] #[q1, q2, q3, q4]))
    (first | go_keep | exact hS)
    (first
      | (go_at_call 74; refine (HC.out _ Hb0.out).mono ?_; rintro e w1 ⟨A', c', rfl, hI, hb1⟩; have hbb := Hb0.out.trans hb1; have hS := HK.out _ hbb)
      | (go_at_call 74; refine (HC.out _ hbw).mono ?_; rintro e w2 ⟨A', c', rfl, hI, hb2⟩; have hbb := hbw.trans (hb2.mono hbw.size); have hS := HK.out _ hbb)
      | (refine (HW.out _ Hb0.out).mono ?_; rintro e w1 ⟨rfl, hb1⟩; have hbw := Hb0.out.trans hb1; have hS := HK.out _ hbw)
      | (refine (HW.out _ hbb).mono ?_; rintro e w2 ⟨rfl, hb2⟩; have hbw := hbb.trans (hb2.mono hbb.size); have hI2 := (hI.below hb2).more hb2.size; have hS := HK.out _ hbw))
  all_goals go_wp2_with fail
  all_goals first | exact Hfin.out A' c' _ hI2 hbw | exact Hfin.out A' c' _ hI hbb
set_option maxRecDepth 100000 in
set_option maxHeartbeats 8000000 in
theorem pick_any (w0 : World) (allA : Option Addr) (allc : Nat) (all : List Int) (F : FuncId) (q1 q2 q3 q4 : Value) (f : List Int → Bool)
    (hF : ∀ (x : Value) (ws : World), Sem.run Try.prog (callFunc F #[x, q1, q2, q3, q4]) ws = .ok (.enter F #[x, q1, q2, q3, q4]) ws)
    (hW : WillDo w0 F q1 q2 q3 q4 all f) (hal : all.length ≤ 1000) : ∀ (m : Nat) (ws : World) (A : Option Addr) (c : Nat) (chosen : List Int) (from_ : Nat),
    PickAt w0 allA allc all F q1 q2 q3 q4 ws → Ints ws ws.heap.size A chosen → chosen.length ≤ c → (A = none → chosen = [] ∧ c = 0) → chosen.length ≤ from_ → from_ ≤ all.length → (∀ x ∈ chosen, x ∈ all) → m ≤ 1000 →
    Calls Try.prog 104 #[.slice A chosen.length c, .int .i64 from_, .int .i64 m, .pointer (some ⟨w0.heap.size + 1, 0, none⟩), .pointer (some ⟨w0.heap.size, 0, none⟩), .pointer (some ⟨w0.heap.size + 1 + 1, 0, none⟩)] ws
      (PickPost (pickVal f chosen (all.drop from_) m) ws) := by
  intro m
  induction m with
  | zero =>
    intro ws A c chosen from_ h hr hc hA hl hf hin _
    rw [pickVal_zero]
    exact pick_zero w0 allA allc all F q1 q2 q3 q4 f hF hW hal ws A c chosen from_ h hr (by omega) hin
  | succ m ih =>
    intro ws A c chosen from_ h hr hc hA hl hf hin hm
    have HIH := Lib.hid ih; clear ih
    have HW := Lib.hid hW; clear hW
    have hs2 : w0.heap.size + 1 + 1 < ws.heap.size := lt_of_block h.h2
    have hm1 : ((m + 1 : Nat) : Int) = (m : Int) + 1 := by omega
    rw [hm1]
    clear hm1
    have hb0 : ((m : Int) + 1 == 0) = false := by rw [beq_eq_false_iff_ne]; omega
    generalize hR : pickVal f chosen (all.drop from_) (m + 1) = R
    have HR := Lib.hid hR; clear hR
    have H := Lib.hid h
    have Hr := Lib.hid hr; have Hin := Lib.hid hin
    clear hr hin h
    cases A with
    | none =>
      obtain ⟨rfl, rfl⟩ := hA rfl
      simp only [List.length_nil]
      go_enter Try.func104, Try.ntmps104
      go_wp2_with fail
      go_loopw [11] (fun i wl => ∃ k : Nat, from_ ≤ k ∧ k ≤ all.length ∧ i = .int .i64 k ∧ Hid (pickVal f ([] : List Int) (all.drop k) (m + 1) = R) ∧ Below ws.heap.size ws wl) (fun i _ => all.length - (intOf i).toNat)
      case atStart => exact ⟨from_, Nat.le_refl _, hf, rfl, HR, Below.refl _ _⟩
      case round =>
        obtain ⟨k, hfk, hk, rfl, hN, hb⟩ := hrel
        have hP := H.out.below hb hs2
        have x0 : wr.cell? ⟨w0.heap.size, 0, none⟩ = some (.slice allA all.length allc) := blk_cell hP.h0 0
        have x1 : wr.cell? ⟨w0.heap.size + 1 + 1, 0, none⟩ = some (.func (.func 104) #[] #[.pointer (some ⟨w0.heap.size + 1, 0, none⟩), .pointer (some ⟨w0.heap.size, 0, none⟩), .pointer (some ⟨w0.heap.size + 1 + 1, 0, none⟩)]) := blk_cell hP.h2 0
        have hsl : w0.heap.size + 1 + 1 < wr.heap.size := lt_of_block hP.h2
        by_cases hkl : k < all.length
        · have hdrop : all.drop k = all[k] :: all.drop (k + 1) := List.drop_eq_getElem_cons hkl
          obtain ⟨b, off, hAll, hbb, hcb⟩ : ∃ b off, allA = some ⟨b, off, none⟩ ∧ b < w0.heap.size ∧ wr.cell? ⟨b, off + k, none⟩ = some (.int .i64 all[k]) := hP.hall k all[k] (List.getElem?_eq_getElem hkl)
          have hpos : 0 < all.length := by omega
          have hxin : all[k] ∈ all := List.getElem_mem hkl
          have hki : (k : Int) < (all.length : Int) := by omega
          have hNx := hN.out
          rw [hdrop, pickVal_succ] at hNx
          generalize all[k] = x at hcb hxin hNx
          have hbA : Below wr.heap.size wr (wr.alloc (.cells #[.int .i64 x] 3)).drew := by
            have := (Below.refl wr.heap.size wr).alloc (Nat.le_refl _) (.cells #[.int .i64 x] 3)
            exact ⟨this.os, this.tape, this.output, this.size, this.block⟩
          have hk3 : ∀ w', Below wr.heap.size wr w' → w'.cell? ⟨w0.heap.size, 0, none⟩ = some (.slice (some ⟨b, off, none⟩) all.length allc) ∧ w'.cell? ⟨w0.heap.size + 1 + 1, 0, none⟩ = some (.func (.func 104) #[] #[.pointer (some ⟨w0.heap.size + 1, 0, none⟩), .pointer (some ⟨w0.heap.size, 0, none⟩), .pointer (some ⟨w0.heap.size + 1 + 1, 0, none⟩)]) ∧ w'.cell? ⟨b, off + k, none⟩ = some (.int .i64 x) := by
            intro w' hb'
            have hc' : ∀ q i, q < wr.heap.size → w'.cell? ⟨q, i, none⟩ = wr.cell? ⟨q, i, none⟩ := fun q i hq => hb'.cell (p := ⟨q, i, none⟩) hq
            rw [hAll] at x0
            exact ⟨(hc' _ _ (by omega)).trans x0, (hc' _ _ hsl).trans x1, (hc' _ _ (by omega)).trans hcb⟩
          have hbw : b < wr.heap.size := by omega
          have HK3 := Lib.hid hk3; have HbA := Lib.hid hbA; have HP := Lib.hid hP; have HNx := Lib.hid hNx; have Hb := Lib.hid hb
          have Hxin := Lib.hid hxin
          subst hAll
          clear hk3 hbA hP hNx hb hxin hN hdrop
          have hrr := Lib.hid ((Hr.out.below Hb.out).more Hb.out.size)
          have hcA : Hid ((wr.alloc (.cells #[.int .i64 x] 3)).drew.cell? ⟨wr.heap.size, 0, none⟩ = some (.int .i64 x)) := blk_cell (heap_alloc_new wr (.cells #[.int .i64 x] 3)) 0
          have Hw1 : Hid (IntKind.i64.wrap ((k : Int) + 1) = (k : Int) + 1) := IntWalk.i64_in _ (by omega)
          have Hw2 : Hid (IntKind.i64.wrap (m : Int) = (m : Int)) := IntWalk.i64_in _ (by omega)
          have hlc : Hid (([] : List Int).length ≤ 1000) := by show _ ≤ _; omega
          have HCall : Hid (∀ (w2 : World) (g' c' : Nat), Ints w2 w2.heap.size (some ⟨g', 0, none⟩) (([] : List Int) ++ [x]) → ([] : List Int).length + 1 ≤ c' → Below wr.heap.size wr w2 →
              Calls Try.prog 104 #[.slice (some ⟨g', 0, none⟩) (([] : List Int).length + 1) c', .int .i64 ((k : Int) + 1), .int .i64 m, .pointer (some ⟨w0.heap.size + 1, 0, none⟩), .pointer (some ⟨w0.heap.size, 0, none⟩), .pointer (some ⟨w0.heap.size + 1 + 1, 0, none⟩)] w2 (PickPost (pickVal f (([] : List Int) ++ [x]) (all.drop (k + 1)) m) w2)) := by
            intro w2 g' c' hI2 hc2 hb2
            have := HIH.out w2 (some ⟨g', 0, none⟩) c' (([] : List Int) ++ [x]) (k + 1) (HP.out.below hb2 hsl) hI2 (by simp; simpa using hc2) (by simp) (by simp only [List.length_append, List.length_cons, List.length_nil] at hl ⊢; omega) (by omega) (fun y hy => by
              rcases List.mem_append.1 hy with hy | hy
              · exact Hin.out y hy
              · simp at hy; subst hy; exact Hxin.out) (by omega)
            simpa using this
          clear HIH HP H
          cases hq : pickVal f (([] : List Int) ++ [x]) (all.drop (k + 1)) m with
          | none =>
            rw [hq] at HCall HNx
            clear hq
            go_wp2_with fail
            go_region_held3 (fun w' => w'.cell? ⟨w0.heap.size, 0, none⟩ = some (.slice (some ⟨b, off, none⟩) all.length allc) ∧ w'.cell? ⟨w0.heap.size + 1 + 1, 0, none⟩ = some (.func (.func 104) #[] #[.pointer (some ⟨w0.heap.size + 1, 0, none⟩), .pointer (some ⟨w0.heap.size, 0, none⟩), .pointer (some ⟨w0.heap.size + 1 + 1, 0, none⟩)]) ∧ w'.cell? ⟨b, off + k, none⟩ = some (.int .i64 x))
              (first | go_keep | exact hS | exact HK3.out _ HbA.out)
              (first
                | (go_at_call 104; rw [Hw1.out, Hw2.out]; refine hcl.mono ?_; rintro e w3 ⟨A3, n3, c3, rfl, hb3⟩; have hbZ := hbW.trans (hb3.mono hbW.size); have hS := HK3.out _ hbZ)
                | (refine step_grow_ints (by rfl) (.tmp 35) (.tmp 40) (by rfl) Try.underlying22 int_info none ([] : List Int) ([] : List Int).length rfl (by rfl) (by simp) wr.heap.size (hrr.out.below HbA.out) wr.heap.size 1 x (by rfl) hcA.out hlc.out ?_; intro g' c' w2 hI2 hc2 hb2; have hbW := HbA.out.trans (hb2.mono HbA.out.size); have hS := HK3.out _ hbW; have hcl := HCall.out _ g' c' hI2 hc2 hbW))
            go_wp2_with fail
            go_roundw
            case rel => exact ⟨k + 1, by omega, by omega, by go_num, HNx, Hb.out.trans (hbZ.mono Hb.out.size)⟩
            case measure => simp [intOf]; omega
          | some l =>
            rw [hq] at HCall HNx
            have hRl : R = some l := HNx.out.symm
            clear hq HNx
            subst hRl
            go_wp2_with fail
            go_region_held3 (fun w' => w'.cell? ⟨w0.heap.size, 0, none⟩ = some (.slice (some ⟨b, off, none⟩) all.length allc) ∧ w'.cell? ⟨w0.heap.size + 1 + 1, 0, none⟩ = some (.func (.func 104) #[] #[.pointer (some ⟨w0.heap.size + 1, 0, none⟩), .pointer (some ⟨w0.heap.size, 0, none⟩), .pointer (some ⟨w0.heap.size + 1 + 1, 0, none⟩)]) ∧ w'.cell? ⟨b, off + k, none⟩ = some (.int .i64 x))
              (first | go_keep | exact hS | exact HK3.out _ HbA.out)
              (first
                | (go_at_call 104; rw [Hw1.out, Hw2.out]; refine hcl.mono ?_; rintro e w3 ⟨A3, c3, rfl, hI3, hb3⟩; have hbZ := hbW.trans (hb3.mono hbW.size); have hS := HK3.out _ hbZ)
                | (refine step_grow_ints (by rfl) (.tmp 35) (.tmp 40) (by rfl) Try.underlying22 int_info none ([] : List Int) ([] : List Int).length rfl (by rfl) (by simp) wr.heap.size (hrr.out.below HbA.out) wr.heap.size 1 x (by rfl) hcA.out hlc.out ?_; intro g' c' w2 hI2 hc2 hb2; have hbW := HbA.out.trans (hb2.mono HbA.out.size); have hS := HK3.out _ hbW; have hcl := HCall.out _ g' c' hI2 hc2 hbW))
            go_wp2_with fail
            go_ret2
            exact ⟨A3, c3, rfl, hI3, Hb.out.trans (hbZ.mono Hb.out.size)⟩
        · have hnil : all.drop k = [] := List.drop_eq_nil_iff.2 (by omega)
          have hRn : R = none := by rw [← hN.out, hnil]; rfl
          have hlt : ¬ (k : Int) < (all.length : Int) := by omega
          have hbl := Lib.hid hb
          clear hN hb hP
          subst hRn
          go_wp2_with fail
          go_ret2
          exact ⟨none, 0, 0, rfl, hbl.out⟩
    | some ad =>
      go_enter Try.func104, Try.ntmps104
      go_wp2_with fail
      go_loopw [11] (fun i wl => ∃ k : Nat, from_ ≤ k ∧ k ≤ all.length ∧ i = .int .i64 k ∧ Hid (pickVal f chosen (all.drop k) (m + 1) = R) ∧ Below ws.heap.size ws wl) (fun i _ => all.length - (intOf i).toNat)
      case atStart => exact ⟨from_, Nat.le_refl _, hf, rfl, HR, Below.refl _ _⟩
      case round =>
        obtain ⟨k, hfk, hk, rfl, hN, hb⟩ := hrel
        have hP := H.out.below hb hs2
        have x0 : wr.cell? ⟨w0.heap.size, 0, none⟩ = some (.slice allA all.length allc) := blk_cell hP.h0 0
        have x1 : wr.cell? ⟨w0.heap.size + 1 + 1, 0, none⟩ = some (.func (.func 104) #[] #[.pointer (some ⟨w0.heap.size + 1, 0, none⟩), .pointer (some ⟨w0.heap.size, 0, none⟩), .pointer (some ⟨w0.heap.size + 1 + 1, 0, none⟩)]) := blk_cell hP.h2 0
        have hsl : w0.heap.size + 1 + 1 < wr.heap.size := lt_of_block hP.h2
        by_cases hkl : k < all.length
        · have hdrop : all.drop k = all[k] :: all.drop (k + 1) := List.drop_eq_getElem_cons hkl
          obtain ⟨b, off, hAll, hbb, hcb⟩ : ∃ b off, allA = some ⟨b, off, none⟩ ∧ b < w0.heap.size ∧ wr.cell? ⟨b, off + k, none⟩ = some (.int .i64 all[k]) := hP.hall k all[k] (List.getElem?_eq_getElem hkl)
          have hpos : 0 < all.length := by omega
          have hxin : all[k] ∈ all := List.getElem_mem hkl
          have hki : (k : Int) < (all.length : Int) := by omega
          have hNx := hN.out
          rw [hdrop, pickVal_succ] at hNx
          generalize all[k] = x at hcb hxin hNx
          have hbA : Below wr.heap.size wr (wr.alloc (.cells #[.int .i64 x] 3)).drew := by
            have := (Below.refl wr.heap.size wr).alloc (Nat.le_refl _) (.cells #[.int .i64 x] 3)
            exact ⟨this.os, this.tape, this.output, this.size, this.block⟩
          have hk3 : ∀ w', Below wr.heap.size wr w' → w'.cell? ⟨w0.heap.size, 0, none⟩ = some (.slice (some ⟨b, off, none⟩) all.length allc) ∧ w'.cell? ⟨w0.heap.size + 1 + 1, 0, none⟩ = some (.func (.func 104) #[] #[.pointer (some ⟨w0.heap.size + 1, 0, none⟩), .pointer (some ⟨w0.heap.size, 0, none⟩), .pointer (some ⟨w0.heap.size + 1 + 1, 0, none⟩)]) ∧ w'.cell? ⟨b, off + k, none⟩ = some (.int .i64 x) := by
            intro w' hb'
            have hc' : ∀ q i, q < wr.heap.size → w'.cell? ⟨q, i, none⟩ = wr.cell? ⟨q, i, none⟩ := fun q i hq => hb'.cell (p := ⟨q, i, none⟩) hq
            rw [hAll] at x0
            exact ⟨(hc' _ _ (by omega)).trans x0, (hc' _ _ hsl).trans x1, (hc' _ _ (by omega)).trans hcb⟩
          have hbw : b < wr.heap.size := by omega
          have HK3 := Lib.hid hk3; have HbA := Lib.hid hbA; have HP := Lib.hid hP; have HNx := Lib.hid hNx; have Hb := Lib.hid hb
          have Hxin := Lib.hid hxin
          subst hAll
          clear hk3 hbA hP hNx hb hxin hN hdrop
          have hrr := Lib.hid ((Hr.out.below Hb.out).more Hb.out.size)
          have hcA : Hid ((wr.alloc (.cells #[.int .i64 x] 3)).drew.cell? ⟨wr.heap.size, 0, none⟩ = some (.int .i64 x)) := blk_cell (heap_alloc_new wr (.cells #[.int .i64 x] 3)) 0
          have Hw1 : Hid (IntKind.i64.wrap ((k : Int) + 1) = (k : Int) + 1) := IntWalk.i64_in _ (by omega)
          have Hw2 : Hid (IntKind.i64.wrap (m : Int) = (m : Int)) := IntWalk.i64_in _ (by omega)
          have hlc : Hid (chosen.length ≤ 1000) := by show _ ≤ _; omega
          have hci : (chosen.length : Int) ≤ (c : Int) := by omega
          have HCall : Hid (∀ (w2 : World) (g' c' : Nat), Ints w2 w2.heap.size (some ⟨g', 0, none⟩) (chosen ++ [x]) → chosen.length + 1 ≤ c' → Below wr.heap.size wr w2 →
              Calls Try.prog 104 #[.slice (some ⟨g', 0, none⟩) (chosen.length + 1) c', .int .i64 ((k : Int) + 1), .int .i64 m, .pointer (some ⟨w0.heap.size + 1, 0, none⟩), .pointer (some ⟨w0.heap.size, 0, none⟩), .pointer (some ⟨w0.heap.size + 1 + 1, 0, none⟩)] w2 (PickPost (pickVal f (chosen ++ [x]) (all.drop (k + 1)) m) w2)) := by
            intro w2 g' c' hI2 hc2 hb2
            have := HIH.out w2 (some ⟨g', 0, none⟩) c' (chosen ++ [x]) (k + 1) (HP.out.below hb2 hsl) hI2 (by simp; simpa using hc2) (by simp) (by simp only [List.length_append, List.length_cons, List.length_nil] at hl ⊢; omega) (by omega) (fun y hy => by
              rcases List.mem_append.1 hy with hy | hy
              · exact Hin.out y hy
              · simp at hy; subst hy; exact Hxin.out) (by omega)
            simpa using this
          clear HIH HP H
          cases hq : pickVal f (chosen ++ [x]) (all.drop (k + 1)) m with
          | none =>
            rw [hq] at HCall HNx
            clear hq
            go_wp2_with fail
            go_region_held3 (fun w' => w'.cell? ⟨w0.heap.size, 0, none⟩ = some (.slice (some ⟨b, off, none⟩) all.length allc) ∧ w'.cell? ⟨w0.heap.size + 1 + 1, 0, none⟩ = some (.func (.func 104) #[] #[.pointer (some ⟨w0.heap.size + 1, 0, none⟩), .pointer (some ⟨w0.heap.size, 0, none⟩), .pointer (some ⟨w0.heap.size + 1 + 1, 0, none⟩)]) ∧ w'.cell? ⟨b, off + k, none⟩ = some (.int .i64 x))
              (first | go_keep | exact hS | exact HK3.out _ HbA.out)
              (first
                | (go_at_call 104; rw [Hw1.out, Hw2.out]; refine hcl.mono ?_; rintro e w3 ⟨A3, n3, c3, rfl, hb3⟩; have hbZ := hbW.trans (hb3.mono hbW.size); have hS := HK3.out _ hbZ)
                | (refine step_grow_ints (by rfl) (.tmp 35) (.tmp 40) (by rfl) Try.underlying22 int_info (some ad) chosen chosen.length rfl (by rfl) (by simp) wr.heap.size (hrr.out.below HbA.out) wr.heap.size 1 x (by rfl) hcA.out hlc.out ?_; intro g' c' w2 hI2 hc2 hb2; have hbW := HbA.out.trans (hb2.mono HbA.out.size); have hS := HK3.out _ hbW; have hcl := HCall.out _ g' c' hI2 hc2 hbW))
            go_wp2_with fail
            go_roundw
            case rel => exact ⟨k + 1, by omega, by omega, by go_num, HNx, Hb.out.trans (hbZ.mono Hb.out.size)⟩
            case measure => simp [intOf]; omega
          | some l =>
            rw [hq] at HCall HNx
            have hRl : R = some l := HNx.out.symm
            clear hq HNx
            subst hRl
            go_wp2_with fail
            go_region_held3 (fun w' => w'.cell? ⟨w0.heap.size, 0, none⟩ = some (.slice (some ⟨b, off, none⟩) all.length allc) ∧ w'.cell? ⟨w0.heap.size + 1 + 1, 0, none⟩ = some (.func (.func 104) #[] #[.pointer (some ⟨w0.heap.size + 1, 0, none⟩), .pointer (some ⟨w0.heap.size, 0, none⟩), .pointer (some ⟨w0.heap.size + 1 + 1, 0, none⟩)]) ∧ w'.cell? ⟨b, off + k, none⟩ = some (.int .i64 x))
              (first | go_keep | exact hS | exact HK3.out _ HbA.out)
              (first
                | (go_at_call 104; rw [Hw1.out, Hw2.out]; refine hcl.mono ?_; rintro e w3 ⟨A3, c3, rfl, hI3, hb3⟩; have hbZ := hbW.trans (hb3.mono hbW.size); have hS := HK3.out _ hbZ)
                | (refine step_grow_ints (by rfl) (.tmp 35) (.tmp 40) (by rfl) Try.underlying22 int_info (some ad) chosen chosen.length rfl (by rfl) (by simp) wr.heap.size (hrr.out.below HbA.out) wr.heap.size 1 x (by rfl) hcA.out hlc.out ?_; intro g' c' w2 hI2 hc2 hb2; have hbW := HbA.out.trans (hb2.mono HbA.out.size); have hS := HK3.out _ hbW; have hcl := HCall.out _ g' c' hI2 hc2 hbW))
            go_wp2_with fail
            go_ret2
            exact ⟨A3, c3, rfl, hI3, Hb.out.trans (hbZ.mono Hb.out.size)⟩
        · have hnil : all.drop k = [] := List.drop_eq_nil_iff.2 (by omega)
          have hRn : R = none := by rw [← hN.out, hnil]; rfl
          have hlt : ¬ (k : Int) < (all.length : Int) := by omega
          have hbl := Lib.hid hb
          clear hN hb hP
          subst hRn
          go_wp2_with fail
          go_ret2
          exact ⟨none, 0, 0, rfl, hbl.out⟩
end Go.Proofs.Ytpbjpochjagicaa
