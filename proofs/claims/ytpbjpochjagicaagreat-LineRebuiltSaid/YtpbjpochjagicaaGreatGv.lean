/- Walks: a number is put into a list in order: put of the reference. Plain laws: cars that are given things, one behind the other; all lists of things. -/
import Derived.Test.YtpbjpochjagicaaGreatW38
import Derived.Test.YtpbjpochjagicaaGreatW25
namespace Go.Proofs.YtpbjpochjagicaaGreat
open Go.RowKit

def loTo (xs : List Int) (n : Int) (k : Nat) : List Int := (xs.take k).filter (fun x => decide (x < n))
def hiTo (xs : List Int) (n : Int) (k : Nat) : List Int := (xs.take k).filter (fun x => decide (n < x))
def putL (xs : List Int) (n : Int) : List Int := xs.filter (fun x => decide (x < n)) ++ [n] ++ xs.filter (fun x => decide (n < x))
theorem take_more {xs : List Int} {k : Nat} {x : Int} (h : xs[k]? = some x) : xs.take (k + 1) = xs.take k ++ [x] := by
  rw [List.take_add_one, h]; rfl
theorem loTo_in {xs : List Int} {n x : Int} {k : Nat} (h : xs[k]? = some x) (hx : x < n) : loTo xs n (k + 1) = loTo xs n k ++ [x] := by
  unfold loTo; rw [take_more h, List.filter_append]; simp [hx]
theorem loTo_out {xs : List Int} {n x : Int} {k : Nat} (h : xs[k]? = some x) (hx : ¬ x < n) : loTo xs n (k + 1) = loTo xs n k := by
  unfold loTo; rw [take_more h, List.filter_append]; simp [hx]
theorem hiTo_in {xs : List Int} {n x : Int} {k : Nat} (h : xs[k]? = some x) (hx : n < x) : hiTo xs n (k + 1) = hiTo xs n k ++ [x] := by
  unfold hiTo; rw [take_more h, List.filter_append]; simp [hx]
theorem hiTo_out {xs : List Int} {n x : Int} {k : Nat} (h : xs[k]? = some x) (hx : ¬ n < x) : hiTo xs n (k + 1) = hiTo xs n k := by
  unfold hiTo; rw [take_more h, List.filter_append]; simp [hx]
theorem loTo_len (xs : List Int) (n : Int) (k : Nat) : (loTo xs n k).length ≤ xs.length :=
  Nat.le_trans (List.length_filter_le _ _) (by simp; omega)
theorem hiTo_len (xs : List Int) (n : Int) (k : Nat) : (hiTo xs n k).length ≤ xs.length :=
  Nat.le_trans (List.length_filter_le _ _) (by simp; omega)
def PutPost (ys : List Int) (w : World) (e : Ending) (w' : World) : Prop := ∃ A c, e = .returned (.slice A ys.length c) ∧ OwnInts w' w.heap.size A c ys ∧ Below w.heap.size w w'
set_option maxRecDepth 20000 in
set_option maxHeartbeats 2000000 in
theorem put_any (A : Option Addr) (cp : Nat) (xs : List Int) (n : Int) (w : World) (hx : Ints w w.heap.size A xs) (hl : xs.length ≤ 400) :
    Calls Tryz.prog 82 #[.slice A xs.length cp, .int .i64 n] w (PutPost (putL xs n) w) := by
  have HX := Lib.hid hx
  clear hx
  generalize hys : putL xs n = ys
  have HYS := Lib.hid hys
  clear hys
  go_enter Tryz.func82, Tryz.ntmps82
  go_wp2_with fail
  go_loopw [5, 6] (fun v iv wr => ∃ (k : Nat) (A2 : Option Addr) (c2 : Nat), k ≤ xs.length ∧ v = .slice A2 (loTo xs n k).length c2 ∧ iv = .int .i64 k ∧ Hid (OwnInts wr w.heap.size A2 c2 (loTo xs n k)) ∧ Hid (Below w.heap.size w wr)) (fun _ i _ => xs.length - (intOf i).toNat)
  case atStart => exact ⟨0, none, 0, by omega, rfl, rfl, OwnInts.nil _ _, Below.refl _ _⟩
  case round =>
    obtain ⟨k, A2, c2, hk, rfl, rfl, hO, hB⟩ := hrel
    have hsr := hB.out.size
    by_cases hkl : k < xs.length
    · have hki : (k : Int) < (xs.length : Int) := by omega
      obtain ⟨b, off, rfl, hb, hc⟩ := HX.out k xs[k] (List.getElem?_eq_getElem hkl)
      have hcr := (hB.out.cell (p := ⟨b, off + k, none⟩) hb).trans hc
      have hbr : b < wr.heap.size := by omega
      have hke : xs[k]? = some xs[k] := List.getElem?_eq_getElem hkl
      have hll := loTo_len xs n k
      by_cases hlt : xs[k] < n
      · have HNS := Lib.hid (loTo_in hke hlt)
        generalize xs[k] = x at *
        go_wp2_with (at_builtin; refine wpl_app_ints rfl (.tmp 20) (.tmp 25) 23 rfl w.heap.size Tryz.underlying23 int_info A2 c2 (loTo xs n k) rfl (own_alloc hO.out _) (wr.heap.size + 1) (some ⟨wr.heap.size, 0, none⟩) 1 [x] rfl (ints_one _ _ _ (by simp) (by omega)) (by simp; omega) (by simp; omega) ?_; intro A3 c3 w4 hown4 hg4 hat4; have HO4 := Lib.hid hown4; have HB4 := Lib.hid ((hB.out.alloc hsr (.cells #[.int .i64 x] 3)).grown hg4 (by simp; omega) (own_from hO.out)); clear hown4 hg4 hat4)
        go_roundw
        case rel => exact ⟨k + 1, A3, c3, by omega, by rw [HNS.out]; simp, by go_num, (by show OwnInts _ _ _ _ _; rw [HNS.out]; exact HO4.out), HB4⟩
        case measure => simp [intOf]; omega
      · have HNS := Lib.hid (loTo_out hke hlt)
        generalize xs[k] = x at *
        go_wp2_with fail
        go_roundw
        case rel => exact ⟨k + 1, A2, c2, by omega, by rw [HNS.out], by go_num, (by show OwnInts _ _ _ _ _; rw [HNS.out]; exact hO.out), hB⟩
        case measure => simp [intOf]; omega
    · have hlo : loTo xs n k = xs.filter (fun x => decide (x < n)) := by unfold loTo; rw [List.take_of_length_le (by omega)]
      have hni : ¬ (k : Int) < (xs.length : Int) := by omega
      have hll := loTo_len xs n k
      generalize loTo xs n k = lo at *
      obtain ⟨w1, rfl⟩ : ∃ w1, w1 = wr := ⟨_, rfl⟩
      have HLO := Lib.hid hlo
      clear hlo
      go_wp2_with (at_builtin; refine wpl_app_ints rfl (.tmp 27) (.tmp 29) 23 rfl w.heap.size Tryz.underlying23 int_info A2 c2 lo rfl (own_alloc hO.out _) (w1.heap.size + 1) (some ⟨w1.heap.size, 0, none⟩) 1 [n] rfl (ints_one _ _ _ (by simp) (by omega)) (by simp; omega) (by simp; omega) ?_; intro A3 c3 w4 hown4 hg4 hat4; have HO4 := Lib.hid hown4; have HB4 := Lib.hid ((hB.out.alloc hsr (.cells #[.int .i64 n] 3)).grown hg4 (by simp; omega) (own_from hO.out)); clear hown4 hg4 hat4)
      have H0 : hiTo xs n 0 = [] := by simp [hiTo]
      have HO5 : Hid (OwnInts w4 w.heap.size A3 c3 (lo ++ [n] ++ hiTo xs n 0)) := by show OwnInts _ _ _ _ _; rw [H0, List.append_nil]; exact HO4.out
      clear H0 hO hB hsr hni
      go_loopw [5, 7] (fun v iv wr => ∃ (k : Nat) (A2 : Option Addr) (c2 : Nat), k ≤ xs.length ∧ v = .slice A2 (lo ++ [n] ++ hiTo xs n k).length c2 ∧ iv = .int .i64 k ∧ Hid (OwnInts wr w.heap.size A2 c2 (lo ++ [n] ++ hiTo xs n k)) ∧ Hid (Below w.heap.size w wr)) (fun _ i _ => xs.length - (intOf i).toNat)
      case atStart => exact ⟨0, A3, c3, by omega, by simp [hiTo], rfl, HO5, HB4⟩
      case round =>
        obtain ⟨k3, A4, c4, hk3, rfl, rfl, hO, hB⟩ := hrel
        clear HO5 HB4 HO4
        have hsr := hB.out.size
        have hl2 := hiTo_len xs n k3
        by_cases hkl3 : k3 < xs.length
        · have hki : (k3 : Int) < (xs.length : Int) := by omega
          obtain ⟨b, off, rfl, hb, hc⟩ := HX.out k3 xs[k3] (List.getElem?_eq_getElem hkl3)
          have hcr := (hB.out.cell (p := ⟨b, off + k3, none⟩) hb).trans hc
          have hbr : b < wr.heap.size := by omega
          have hke : xs[k3]? = some xs[k3] := List.getElem?_eq_getElem hkl3
          by_cases hlt : n < xs[k3]
          · have HNS := Lib.hid (hiTo_in hke hlt)
            have hsum : (lo ++ [n] ++ hiTo xs n k3).length = lo.length + 1 + (hiTo xs n k3).length := by simp; omega
            generalize xs[k3] = x at *
            obtain ⟨zs, hzs⟩ : ∃ zs, zs = lo ++ [n] ++ hiTo xs n k3 := ⟨_, rfl⟩
            have HNZ : Hid (lo ++ [n] ++ hiTo xs n (k3 + 1) = zs ++ [x]) := by show _ = _; rw [HNS.out, hzs]; simp
            rw [← hzs] at hO hsum ⊢
            have HSUM := Lib.hid hsum
            clear hzs hsum
            go_wp2_with (at_builtin; refine wpl_app_ints rfl (.tmp 43) (.tmp 48) 23 rfl w.heap.size Tryz.underlying23 int_info A4 c4 zs rfl (own_alloc hO.out _) (wr.heap.size + 1) (some ⟨wr.heap.size, 0, none⟩) 1 [x] rfl (ints_one _ _ _ (by simp) (by omega)) (by have := HSUM.out; simp; omega) (by simp; omega) ?_; intro A5 c5 w5 hown5 hg5 hat5; have HO5 := Lib.hid hown5; have HB5 := Lib.hid ((hB.out.alloc hsr (.cells #[.int .i64 x] 3)).grown hg5 (by simp; omega) (own_from hO.out)); clear hown5 hg5 hat5)
            go_roundw
            case rel => exact ⟨k3 + 1, A5, c5, by omega, by rw [HNZ.out]; simp, by go_num, (by show OwnInts _ _ _ _ _; rw [HNZ.out]; exact HO5.out), HB5⟩
            case measure => simp [intOf]; omega
          · have HNS := Lib.hid (hiTo_out hke hlt)
            generalize xs[k3] = x at *
            go_wp2_with fail
            go_roundw
            case rel => exact ⟨k3 + 1, A4, c4, by omega, by rw [HNS.out], by go_num, (by show OwnInts _ _ _ _ _; rw [HNS.out]; exact hO.out), hB⟩
            case measure => simp [intOf]; omega
        · have hni : ¬ (k3 : Int) < (xs.length : Int) := by omega
          have hfin : lo ++ [n] ++ hiTo xs n k3 = ys := by
            rw [← HYS.out, HLO.out]
            unfold putL hiTo
            rw [List.take_of_length_le (by omega)]
          rw [hfin] at hO ⊢
          go_wp2_with fail
          go_ret
          exact ⟨A4, c4, rfl, hO.out, hB.out⟩
end Go.Proofs.YtpbjpochjagicaaGreat

namespace Go.Proofs.YtpbjpochjagicaaGreat
open Go.RowKit

theorem ins_lt : ∀ {l : List Int} {n : Int}, l.Pairwise (· < ·) → n ∉ l → (Pl.insert n l).Pairwise (· < ·)
  | [], n, _, _ => by simp [Pl.insert]
  | x :: l, n, h, hn => by
    have hc := List.pairwise_cons.1 h
    simp only [List.mem_cons, not_or] at hn
    rw [Pl.insert]
    split
    · next hx =>
      refine List.pairwise_cons.2 ⟨fun y hy => ?_, h⟩
      rcases List.mem_cons.1 hy with rfl | hy
      · exact hx
      · have := hc.1 y hy; omega
    · next hx =>
      refine List.pairwise_cons.2 ⟨fun y hy => ?_, ins_lt hc.2 hn.2⟩
      rcases mem_insert.1 hy with rfl | hy
      · omega
      · exact hc.1 y hy
theorem putL_insert : ∀ {l : List Int} {n : Int}, l.Pairwise (· < ·) → n ∉ l → putL l n = Pl.insert n l
  | [], n, _, _ => by simp [putL, Pl.insert]
  | x :: l, n, h, hn => by
    have hc := List.pairwise_cons.1 h
    simp only [List.mem_cons, not_or] at hn
    rw [Pl.insert]
    split
    · next hx =>
      have e1 : (x :: l).filter (fun y => decide (y < n)) = [] := by
        rw [List.filter_eq_nil_iff]
        intro y hy
        rcases List.mem_cons.1 hy with rfl | hy
        · simp; omega
        · have := hc.1 y hy; simp; omega
      have e2 : (x :: l).filter (fun y => decide (n < y)) = x :: l := by
        rw [List.filter_eq_self]
        intro y hy
        rcases List.mem_cons.1 hy with rfl | hy
        · simp; omega
        · have := hc.1 y hy; simp; omega
      rw [putL, e1, e2]; rfl
    · next hx =>
      have h1 : x < n := by omega
      have h2 : ¬ n < x := by omega
      have := putL_insert hc.2 hn.2
      rw [← this, putL, putL, List.filter_cons, List.filter_cons, if_pos (by simpa using h1), if_neg (by simpa using h2)]
      rfl

/-- A car without an error, list by list. -/
structure FitL (c : Pl.Cch) : Prop where
  ne : c.gauges ≠ []
  g : c.gauges.Pairwise (· < ·)
  gi : ∀ x ∈ c.gauges, 1 ≤ x ∧ x ≤ 3
  s1 : 1 ≤ c.size
  s2 : c.size ≤ 9
  l1 : 1 ≤ c.load
  l2 : c.load ≤ 20
  b : c.brakes.Pairwise (· < ·)
  bi : ∀ x ∈ c.brakes, 1 ≤ x ∧ x ≤ 3
  h : c.heats.Pairwise (· < ·)
  hi : ∀ x ∈ c.heats, 1 ≤ x ∧ x ≤ 3
theorem fitL_of {c : Pl.Cch} (h : Pl.fits c = 0) : FitL c := by
  unfold Pl.fits at h
  split at h
  · cases h
  · next h1 =>
    split at h
    · next h2 => exact absurd h h2
    · next h2 =>
      split at h
      · cases h
      · next h3 =>
        split at h
        · next h4 => exact absurd h h4
        · next h4 =>
          simp only [ne_eq, Decidable.not_not] at h2 h4
          have a := rising_all (oe := 1) (by omega) h2
          have b := rising_all (oe := 1) (by omega) h4
          have d := rising_all (oe := 1) (by omega) h
          simp [Pl.out] at h3
          exact ⟨h1, a.2.1, a.1, by omega, by omega, by omega, by omega, b.2.1, b.1, d.2.1, d.1⟩
theorem rising_ok {l : List Int} (h : l.Pairwise (· < ·)) (hi : ∀ x ∈ l, 1 ≤ x ∧ x ≤ 3) : Pl.rising l 1 3 1 = 0 := rising_from_of 1 3 1 l none h hi (fun p hp => by cases hp)
theorem FitL.fits {c : Pl.Cch} (h : FitL c) : Pl.fits c = 0 := by
  have o1 : Pl.out c.size 1 9 = false := by have := h.s1; have := h.s2; simp [Pl.out]; omega
  have o2 : Pl.out c.load 1 20 = false := by have := h.l1; have := h.l2; simp [Pl.out]; omega
  simp [Pl.fits, h.ne, rising_ok h.g h.gi, rising_ok h.b h.bi, rising_ok h.h h.hi, o1, o2]

/-- Something that a car can be given; whether it has it. -/
def Thing (t : Int) : Prop := (1 ≤ t ∧ t ≤ 3) ∨ (11 ≤ t ∧ t ≤ 13) ∨ (21 ≤ t ∧ t ≤ 23) ∨ t = 30
def HasT (c : Pl.Cch) (t : Int) : Prop := if t = 30 then c.hooks = true else if 20 < t then t - 20 ∈ c.heats else if 10 < t then t - 10 ∈ c.brakes else t ∈ c.gauges
def giveP (c : Pl.Cch) (t : Int) : Pl.Cch :=
  if t = 30 then { c with hooks := true } else if 20 < t then { c with heats := putL c.heats (t - 20) }
  else if 10 < t then { c with brakes := putL c.brakes (t - 10) } else { c with gauges := putL c.gauges t }
def givenP (c : Pl.Cch) (l : List Int) : Pl.Cch := l.foldl giveP c
theorem insert_ne (n : Int) (l : List Int) : Pl.insert n l ≠ [] := by
  intro e
  have := insert_length n l
  rw [e] at this
  simp at this
theorem give_ok {c : Pl.Cch} {t : Int} (hf : FitL c) (ht : Thing t) (hn : ¬ HasT c t) : giveP c t = Pl.give c t ∧ FitL (Pl.give c t) ∧ ∀ s, Thing s → HasT (Pl.give c t) s → HasT c s ∨ s = t := by
  unfold HasT at hn
  unfold giveP Pl.give
  split
  · next h30 =>
    refine ⟨rfl, { hf with }, fun s _ hs => ?_⟩
    unfold HasT at hs ⊢
    by_cases e : s = 30
    · exact .inr (by omega)
    · rw [if_neg e] at hs ⊢; exact .inl hs
  · next h30 =>
    rw [if_neg h30] at hn
    split
    · next h20 =>
      rw [if_pos h20] at hn
      have ht' : 21 ≤ t ∧ t ≤ 23 := by rcases ht with h | h | h | h <;> omega
      refine ⟨by rw [putL_insert hf.h hn], { hf with h := ins_lt hf.h hn, hi := fun x hx => ?_ }, fun s hT hs => ?_⟩
      · rcases mem_insert.1 hx with rfl | hx
        · omega
        · exact hf.hi x hx
      · unfold HasT at hs ⊢
        by_cases e : s = 30
        · rw [if_pos e] at hs ⊢; exact .inl hs
        · rw [if_neg e] at hs ⊢
          by_cases e2 : 20 < s
          · rw [if_pos e2] at hs ⊢
            rcases mem_insert.1 hs with h | h
            · exact .inr (by omega)
            · exact .inl h
          · rw [if_neg e2] at hs ⊢; exact .inl hs
    · next h20 =>
      rw [if_neg h20] at hn
      split
      · next h10 =>
        rw [if_pos h10] at hn
        have ht' : 11 ≤ t ∧ t ≤ 13 := by rcases ht with h | h | h | h <;> omega
        refine ⟨by rw [putL_insert hf.b hn], { hf with b := ins_lt hf.b hn, bi := fun x hx => ?_ }, fun s hT hs => ?_⟩
        · rcases mem_insert.1 hx with rfl | hx
          · omega
          · exact hf.bi x hx
        · unfold HasT at hs ⊢
          by_cases e : s = 30
          · rw [if_pos e] at hs ⊢; exact .inl hs
          · rw [if_neg e] at hs ⊢
            by_cases e2 : 20 < s
            · rw [if_pos e2] at hs ⊢; exact .inl hs
            · rw [if_neg e2] at hs ⊢
              by_cases e3 : 10 < s
              · rw [if_pos e3] at hs ⊢
                rcases mem_insert.1 hs with h | h
                · exact .inr (by omega)
                · exact .inl h
              · rw [if_neg e3] at hs ⊢; exact .inl hs
      · next h10 =>
        rw [if_neg h10] at hn
        have ht' : 1 ≤ t ∧ t ≤ 3 := by rcases ht with h | h | h | h <;> omega
        refine ⟨by rw [putL_insert hf.g hn], { hf with ne := insert_ne _ _, g := ins_lt hf.g hn, gi := fun x hx => ?_ }, fun s hT hs => ?_⟩
        · rcases mem_insert.1 hx with rfl | hx
          · omega
          · exact hf.gi x hx
        · unfold HasT at hs ⊢
          by_cases e : s = 30
          · rw [if_pos e] at hs ⊢; exact .inl hs
          · rw [if_neg e] at hs ⊢
            by_cases e2 : 20 < s
            · rw [if_pos e2] at hs ⊢; exact .inl hs
            · rw [if_neg e2] at hs ⊢
              by_cases e3 : 10 < s
              · rw [if_pos e3] at hs ⊢; exact .inl hs
              · rw [if_neg e3] at hs ⊢
                rcases mem_insert.1 hs with h | h
                · exact .inr h
                · exact .inl h
theorem given_ok : ∀ {l : List Int} {c : Pl.Cch}, FitL c → (∀ t ∈ l, Thing t ∧ ¬ HasT c t) → l.Nodup → givenP c l = Pl.given c l ∧ FitL (Pl.given c l)
  | [], c, hf, _, _ => ⟨rfl, hf⟩
  | t :: l, c, hf, ht, hn => by
    have hc := List.nodup_cons.1 hn
    obtain ⟨h1, h2⟩ := ht t (by simp)
    obtain ⟨e1, e2, e3⟩ := give_ok hf h1 h2
    have := given_ok (l := l) e2 (fun s hs => by
      obtain ⟨k1, k2⟩ := ht s (by simp [hs])
      refine ⟨k1, fun hh => ?_⟩
      rcases e3 s k1 hh with h | rfl
      · exact k2 h
      · exact hc.1 hs) hc.2
    refine ⟨?_, this.2⟩
    show givenP (giveP c t) l = _
    rw [e1]
    exact this.1

theorem missing_thing {c : Pl.Cch} {t : Int} (h : t ∈ Pl.missing c) : Thing t ∧ ¬ HasT c t := by
  simp only [Pl.missing, List.mem_append, List.mem_filter, List.mem_map, List.mem_cons, List.not_mem_nil, or_false, decide_eq_true_eq] at h
  unfold Thing HasT
  rcases h with ((⟨h, hg⟩ | ⟨y, ⟨h, hg⟩, rfl⟩) | ⟨y, ⟨h, hg⟩, rfl⟩) | h
  · refine ⟨by omega, ?_⟩
    rw [if_neg (by omega), if_neg (by omega), if_neg (by omega)]
    exact hg
  · refine ⟨by omega, ?_⟩
    rw [if_neg (by omega), if_neg (by omega), if_pos (by omega), show 10 + y - 10 = y by omega]
    exact hg
  · refine ⟨by omega, ?_⟩
    rw [if_neg (by omega), if_pos (by omega), show 20 + y - 20 = y by omega]
    exact hg
  · cases hh : c.hooks
    · rw [hh] at h
      simp at h
      subst h
      exact ⟨by omega, by simp⟩
    · rw [hh] at h; simp at h
theorem filter_lt3 (p : Int → Bool) : ([1, 2, 3].filter p).Pairwise (fun x y : Int => x < y) := List.Pairwise.filter p (by decide)
theorem missing_asc (c : Pl.Cch) : (Pl.missing c).Pairwise (· < ·) := by
  have m (p : Int → Bool) (x : Int) (h : x ∈ [1, 2, 3].filter p) : 1 ≤ x ∧ x ≤ 3 := by
    have := (List.mem_filter.1 h).1
    simp at this; omega
  unfold Pl.missing
  rw [List.pairwise_append, List.pairwise_append, List.pairwise_append]
  refine ⟨⟨⟨filter_lt3 _, ?_, ?_⟩, ?_, ?_⟩, ?_, ?_⟩
  · rw [List.pairwise_map]; exact (filter_lt3 _).imp (by intros; omega)
  · intro x hx y hy
    obtain ⟨z, hz, rfl⟩ := List.mem_map.1 hy
    have := m _ _ hx; have := m _ _ hz; omega
  · rw [List.pairwise_map]; exact (filter_lt3 _).imp (by intros; omega)
  · intro x hx y hy
    obtain ⟨z, hz, rfl⟩ := List.mem_map.1 hy
    have := m _ _ hz
    rcases List.mem_append.1 hx with hx | hx
    · have := m _ _ hx; omega
    · obtain ⟨u, hu, rfl⟩ := List.mem_map.1 hx
      have := m _ _ hu; omega
  · cases c.hooks <;> simp
  · intro x hx y hy
    have hy30 : y = 30 := by cases hh : c.hooks <;> simp [hh] at hy; exact hy
    rcases List.mem_append.1 hx with hx | hx
    · rcases List.mem_append.1 hx with hx | hx
      · have := m _ _ hx; omega
      · obtain ⟨u, hu, rfl⟩ := List.mem_map.1 hx
        have := m _ _ hu; omega
    · obtain ⟨u, hu, rfl⟩ := List.mem_map.1 hx
      have := m _ _ hu; omega

theorem lists_sub : ∀ {l : List Int} {m : Nat} {k : List Int}, k ∈ Pl.lists l m → k.Sublist l ∧ k.length = m
  | l, 0, k, h => by simp [Pl.lists] at h; subst h; exact ⟨List.nil_sublist _, rfl⟩
  | [], m + 1, k, h => by simp [Pl.lists] at h
  | x :: l, m + 1, k, h => by
    simp only [Pl.lists, List.mem_append, List.mem_map] at h
    rcases h with ⟨j, hj, rfl⟩ | h
    · obtain ⟨h1, h2⟩ := lists_sub hj
      exact ⟨h1.cons_cons x, by simp [h2]⟩
    · obtain ⟨h1, h2⟩ := lists_sub h
      exact ⟨h1.cons x, h2⟩
theorem lists_length : ∀ (l : List Int) (m : Nat), (Pl.lists l m).length ≤ 2 ^ l.length
  | l, 0 => by simp [Pl.lists]; exact Nat.one_le_two_pow
  | [], m + 1 => by simp [Pl.lists]
  | x :: l, m + 1 => by
    have := lists_length l m
    have := lists_length l (m + 1)
    simp only [Pl.lists, List.length_append, List.length_map, List.length_cons, Nat.pow_succ]
    omega
theorem lists_drop {l : List Int} {i : Nat} (h : i < l.length) (m : Nat) : Pl.lists (l.drop i) (m + 1) = (Pl.lists (l.drop (i + 1)) m).map (l[i] :: ·) ++ Pl.lists (l.drop (i + 1)) (m + 1) := by
  rw [List.drop_eq_getElem_cons h, Pl.lists]
/-- A list of things that a car lacks makes a car without an error. -/
theorem given_missing {c : Pl.Cch} {l : List Int} (hf : Pl.fits c = 0) (hl : l.Sublist (Pl.missing c)) : givenP c l = Pl.given c l ∧ Pl.fits (Pl.given c l) = 0 := by
  have := given_ok (fitL_of hf) (fun t ht => missing_thing (hl.subset ht)) (((missing_asc c).sublist hl).imp (by intros; omega))
  exact ⟨this.1, this.2.fits⟩
/-- Where the fewest are looked for: the lists of m things, from number i on. -/
theorem fewest_at {all : List Int} {f : List Int → Bool} {k m i : Nat} (hi : i < (Pl.lists all m).length) (h : ((Pl.lists all m).drop i).find? f = (Pl.lists all m).find? f) (hf : f (Pl.lists all m)[i] = true) :
    Pl.fewestFrom all f (k + 1) m = some (Pl.lists all m)[i] := by
  rw [Pl.fewestFrom, ← h, List.drop_eq_getElem_cons hi, List.find?_cons, hf]
theorem fewest_on {all : List Int} {f : List Int → Bool} {m i : Nat} (hi : i < (Pl.lists all m).length) (h : ((Pl.lists all m).drop i).find? f = (Pl.lists all m).find? f) (hf : f (Pl.lists all m)[i] = false) :
    ((Pl.lists all m).drop (i + 1)).find? f = (Pl.lists all m).find? f := by
  rw [← h, List.drop_eq_getElem_cons hi, List.find?_cons, hf]
theorem fewest_next {all : List Int} {f : List Int → Bool} {k m : Nat} (h : ((Pl.lists all m).drop (Pl.lists all m).length).find? f = (Pl.lists all m).find? f) : Pl.fewestFrom all f (k + 1) m = Pl.fewestFrom all f k (m + 1) := by
  rw [Pl.fewestFrom, ← h, List.drop_length]
  rfl
theorem fewest_at2 {all : List Int} {f : List Int → Bool} {k m i : Nat} (hi : i < (Pl.lists all m).length) : ((Pl.lists all m).drop i).find? f = (Pl.lists all m).find? f → f (Pl.lists all m)[i] = true → Pl.fewestFrom all f (k + 1) m = some (Pl.lists all m)[i] := fewest_at hi
theorem fewest_on2 {all : List Int} {f : List Int → Bool} {m i : Nat} (hi : i < (Pl.lists all m).length) : ((Pl.lists all m).drop i).find? f = (Pl.lists all m).find? f → f (Pl.lists all m)[i] = false → ((Pl.lists all m).drop (i + 1)).find? f = (Pl.lists all m).find? f := fewest_on hi
theorem fewest_next2 {all : List Int} {f : List Int → Bool} {k m : Nat} : ((Pl.lists all m).drop (Pl.lists all m).length).find? f = (Pl.lists all m).find? f → Pl.fewestFrom all f (k + 1) m = Pl.fewestFrom all f k (m + 1) := fewest_next
end Go.Proofs.YtpbjpochjagicaaGreat
