/- Walks: the fewest things that will do. -/
import Derived.Test.YtpbjpochjagicaaW18
import Derived.Laws.EntriesVeiled
import Derived.WalkMore
import Derived.Deep.LoopGhost
namespace Go.Proofs.Ytpbjpochjagicaa
open Go.RowKit

theorem pickVal_start (f : List Int → Bool) (l : List Int) (m : Nat) : pickVal f [] l m = (Pl.lists l m).find? f := by
  rw [pickVal]
  have : (fun k => f ([] ++ k)) = f := by funext k; simp
  rw [this]
  cases (Pl.lists l m).find? f <;> simp
theorem fewestFrom_succ (all : List Int) (f : List Int → Bool) (k m : Nat) : Pl.fewestFrom all f (k + 1) m = (pickVal f [] all m).or (Pl.fewestFrom all f k (m + 1)) := by
  rw [Pl.fewestFrom, pickVal_start]
  cases (Pl.lists all m).find? f <;> rfl

set_option maxRecDepth 100000 in
set_option maxHeartbeats 4000000 in
theorem fewest_any (allA : Option Addr) (allc : Nat) (all : List Int) (F : FuncId) (q1 q2 q3 q4 : Value) (f : List Int → Bool) (w : World)
    (hF : ∀ (x : Value) (ws : World), Sem.run Try.prog (callFunc F #[x, q1, q2, q3, q4]) ws = .ok (.enter F #[x, q1, q2, q3, q4]) ws)
    (hW : WillDo w F q1 q2 q3 q4 all f) (hal : all.length ≤ 900) (hall : Ints w w.heap.size allA all) :
    Calls Try.prog 65 #[.slice allA all.length allc, .func (.func F) #[] #[q1, q2, q3, q4]] w (PickPost (Pl.fewest all f) w) := by
  have hPick := pick_any w allA allc all F q1 q2 q3 q4 f hF hW (by omega)
  have HPick := Lib.hid hPick
  clear hPick hW hF
  have hb : Below w.heap.size w (((w.alloc (.cells #[.slice allA all.length allc] 22)).alloc (.cells #[.func (.func F) #[] #[q1, q2, q3, q4]] 43)).alloc (.cells #[.func (.func 104) #[] #[.pointer (some ⟨w.heap.size + 1, 0, none⟩), .pointer (some ⟨w.heap.size, 0, none⟩), .pointer (some ⟨w.heap.size + 1 + 1, 0, none⟩)]] 144)) :=
    (((Below.refl _ _).alloc (Nat.le_refl _) _).alloc (by simp) _).alloc (by simp; omega) _
  have hAt : PickAt w allA allc all F q1 q2 q3 q4 (((w.alloc (.cells #[.slice allA all.length allc] 22)).alloc (.cells #[.func (.func F) #[] #[q1, q2, q3, q4]] 43)).alloc (.cells #[.func (.func 104) #[] #[.pointer (some ⟨w.heap.size + 1, 0, none⟩), .pointer (some ⟨w.heap.size, 0, none⟩), .pointer (some ⟨w.heap.size + 1 + 1, 0, none⟩)]] 144)) := by
    obtain ⟨M1, M0, M2⟩ := mid_blk w #[.slice allA all.length allc] #[.func (.func F) #[] #[q1, q2, q3, q4]] #[.func (.func 104) #[] #[.pointer (some ⟨w.heap.size + 1, 0, none⟩), .pointer (some ⟨w.heap.size, 0, none⟩), .pointer (some ⟨w.heap.size + 1 + 1, 0, none⟩)]] 22 43 144
    exact ⟨M0, M1, M2, hall.below hb, hb⟩
  have HAt := Lib.hid hAt
  generalize hR : Pl.fewest all f = R
  have HR : Hid (Pl.fewestFrom all f (all.length + 1) 0 = R) := hR
  clear hAt hb hR hall
  go_enter Try.func65, Try.ntmps65
  go_wp2_with fail
  go_step3
  go_wp2_with fail
  go_step3
  go_wp2_with fail
  go_loopw [7] (fun i wr => ∃ m k : Nat, m + k = all.length + 1 ∧ i = .int .i64 m ∧ Hid (Pl.fewestFrom all f k m = R) ∧ Hid (PickAt w allA allc all F q1 q2 q3 q4 wr)) (fun i _ => all.length + 1 - (intOf i).toNat)
  case atStart => exact ⟨0, all.length + 1, by omega, rfl, HR, HAt⟩
  case round =>
    obtain ⟨m, k, hmk, rfl, hN, hP⟩ := hrel
    clear HR HAt
    have x0 : wr.cell? ⟨w.heap.size, 0, none⟩ = some (.slice allA all.length allc) := blk_cell hP.out.h0 0
    have x2 : wr.cell? ⟨w.heap.size + 1 + 1, 0, none⟩ = some (.func (.func 104) #[] #[.pointer (some ⟨w.heap.size + 1, 0, none⟩), .pointer (some ⟨w.heap.size, 0, none⟩), .pointer (some ⟨w.heap.size + 1 + 1, 0, none⟩)]) := blk_cell hP.out.h2 0
    have hs2 : w.heap.size + 1 + 1 < wr.heap.size := lt_of_block hP.out.h2
    rcases k with _ | k
    · have hRn : R = none := hN.out.symm
      have hlt : (all.length : Int) < (m : Int) := by omega
      have hbl := Lib.hid hP.out.bel
      clear hN hP HPick
      subst hRn
      go_wp2_with fail
      go_ret2
      exact ⟨none, 0, 0, rfl, hbl.out⟩
    · have hnlt : ¬ (all.length : Int) < (m : Int) := by omega
      have hst := hN.out
      rw [fewestFrom_succ] at hst
      have hcall := HPick.out m wr none 0 [] 0 hP.out (Ints.nil _ _ _) (by simp) (by simp) (by simp) (by omega) (by simp) (by omega)
      simp only [List.drop_zero, List.length_nil, Int.natCast_zero] at hcall
      cases hq : pickVal f [] all m with
      | none =>
        rw [hq] at hcall hst
        have HN : Hid (Pl.fewestFrom all f k (m + 1) = R) := hst
        have Hcall := Lib.hid hcall
        clear hcall hst hN hq HPick
        go_wp2_with (go_at_call 104; refine Hcall.out.mono ?_; rintro e w3 ⟨A3, n3, c3, rfl, hb3⟩)
        go_roundw
        case rel => exact ⟨m + 1, k, by omega, by go_num, HN, hP.out.below hb3 hs2⟩
        case measure => simp [intOf]; omega
      | some l =>
        rw [hq] at hcall hst
        have hRl : R = some l := hst.symm
        have Hcall := Lib.hid hcall
        clear hcall hst hN hq HPick
        subst hRl
        go_wp2_with (go_at_call 104; refine Hcall.out.mono ?_; rintro e w3 ⟨A3, c3, rfl, hI3, hb3⟩)
        go_ret2
        exact ⟨A3, c3, rfl, hI3, hP.out.bel.trans (hb3.mono (by omega))⟩
end Go.Proofs.Ytpbjpochjagicaa
