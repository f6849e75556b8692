/- Walks: LineBetter (by gen_law9.py). -/
import Derived.Test.YtpbjpochjagicaaW45
import Derived.Test.YtpbjpochjagicaaW63
import Derived.Test.YtpbjpochjagicaaW70
import Derived.Test.YtpbjpochjagicaaW75
import Derived.Test.YtpbjpochjagicaaW34
import Derived.Test.YtpbjpochjagicaaRl
import Derived.Deep.DeepCutAuto
import Derived.BigQuiet
namespace Go.Proofs.Ytpbjpochjagicaa
open Go.RowKit

theorem two_set {W : World} {Q K i : Nat} {v a b : Value} (hQK : Q < K) (h : W.cell? ⟨Q, 1, none⟩ = some a ∧ W.cell? ⟨Q, 2, none⟩ = some b) : (W.setCell ⟨K, i, none⟩ v).cell? ⟨Q, 1, none⟩ = some a ∧ (W.setCell ⟨K, i, none⟩ v).cell? ⟨Q, 2, none⟩ = some b :=
  ⟨(World.cell?_setCell_other W ⟨K, i, none⟩ ⟨Q, 1, none⟩ v (fun e => by injection e; omega)).trans h.1, (World.cell?_setCell_other W ⟨K, i, none⟩ ⟨Q, 2, none⟩ v (fun e => by injection e; omega)).trans h.2⟩
theorem grown_put {w w' : World} {P : Nat} (h : w.grownBy w' (some P)) (i : Nat) (v : Value) : w.grownBy (w'.setCell ⟨P, i, none⟩ v) (some P) :=
  ⟨h.os, h.tape, h.output, by simpa using h.size, fun k hk hne => (Below.heap_setCell _ _ _ _ (fun e => hne (by rw [e]))).trans (h.block k hk hne)⟩

/-- The wider net under way, in box X. -/
structure XAt (g X : Nat) (w0 wx : World) (n : Pl.Nt) (ts : List Pl.Trk) (tA : Option Addr) (tc : Nat) (sv : Value) : Prop where
  box : wx.heap[X]? = some (.cells #[.int .i64 n.stops, .slice tA ts.length tc, sv] 27 (0, 0))
  row : OwnTrks wx w0.heap.size tA tc ts
  kb : Kb g w0 wx
  ok : XOk n ts
  gl : g < w0.heap.size
  xl : w0.heap.size ≤ X
theorem XAt.bagged {g X : Nat} {w0 wx w' : World} {n : Pl.Nt} {ts : List Pl.Trk} {tA : Option Addr} {tc : Nat} {sv : Value} (h : XAt g X w0 wx n ts tA tc sv) (k : Bagged g wx w') : XAt g X w0 w' n ts tA tc sv :=
  have kk := k.kb h.kb
  { h with box := (kk.block (lt_of_block h.box) (by have := h.gl; have := h.xl; omega)).trans h.box, row := kk.row h.gl h.row, kb := h.kb.trans kk }
theorem XAt.alloc {g X : Nat} {w0 wx : World} {n : Pl.Nt} {ts : List Pl.Trk} {tA : Option Addr} {tc : Nat} {sv : Value} (h : XAt g X w0 wx n ts tA tc sv) (o : Obj) : XAt g X w0 (wx.alloc o) n ts tA tc sv :=
  { h with kb := h.kb.alloc o, box := blk_alloc h.box o, row := World.ownsRow.alloc h.row o }
theorem XAt.pushed {g X : Nat} {w0 wx w' : World} {n : Pl.Nt} {ts ts' : List Pl.Trk} {tA A2 : Option Addr} {tc c2 : Nat} {sv : Value} (h : XAt g X w0 wx n ts tA tc sv) (ho : OwnTrks w' w0.heap.size A2 c2 ts') (hg : wx.grownBy w' (Value.slice tA ts.length tc).ownBlock) (hok : XOk n ts') :
    w'.heap[X]? = some (.cells #[.int .i64 n.stops, .slice tA ts.length tc, sv] 27 (0, 0)) ∧ XAt g X w0 (w'.setCell ⟨X, 1, none⟩ (.slice A2 ts'.length c2)) n ts' A2 c2 sv := by
  have hne : ∀ {v : Value} {w : World} {A : Option Addr} {c m : Nat} {l : List Pl.Trk}, OwnTrks w w0.heap.size A c l → w.heap[X]? = some (.cells #[.int .i64 n.stops, v, sv] 27 (0, 0)) → (Value.slice A m c).ownBlock ≠ some X := by
    intro v w A c m l ho hb e
    rcases ho.2 with ⟨hv, _⟩ | ⟨q, cap, cur, hv, _, hh, _⟩
    · injection hv with hv _ _; subst hv; simp [Value.ownBlock] at e
    · injection hv with hv _ _
      subst hv
      simp [Value.ownBlock] at e
      subst e
      rw [hb] at hh
      injection hh with hh
      injection hh with _ hh _
      cases hh
  have hb := (hg.block X (lt_of_block h.box) (fun e => hne h.row h.box e.symm)).trans h.box
  refine ⟨hb, ?_, ownsRow_setCell_other ho (hne ho hb) _, (h.kb.grow hg (fun k hk => (h.row.lt k hk).1) h.gl).setCell (by have := h.xl; show w0.heap.size ≤ X; omega) h.gl _, hok, h.gl, h.xl⟩
  have := blk_set (i := 1) hb (.slice A2 ts'.length c2)
  simpa using this
theorem XAt.rowNe {g X : Nat} {w0 wx : World} {n : Pl.Nt} {ts : List Pl.Trk} {tA : Option Addr} {tc : Nat} {sv : Value} (h : XAt g X w0 wx n ts tA tc sv) {m : Nat} : (Value.slice tA m tc).ownBlock ≠ some X := by
  intro e
  rcases h.row.2 with ⟨hv, _⟩ | ⟨q, cap, cur, hv, _, hh, _⟩
  · injection hv with hv _ _; subst hv; simp [Value.ownBlock] at e
  · injection hv with hv _ _
    subst hv
    simp [Value.ownBlock] at e
    subst e
    rw [h.box] at hh
    injection hh with hh
    injection hh with _ hh _
    cases hh
theorem XAt.setShops {g X : Nat} {w0 wx : World} {n : Pl.Nt} {ts : List Pl.Trk} {tA : Option Addr} {tc : Nat} {sv : Value} (h : XAt g X w0 wx n ts tA tc sv) (v : Value) : XAt g X w0 (wx.setCell ⟨X, 2, none⟩ v) n ts tA tc v :=
  { h with box := (by have := blk_set (i := 2) h.box v; simpa using this), row := ownsRow_setCell_other h.row h.rowNe _, kb := h.kb.setCell (by have := h.xl; show w0.heap.size ≤ X; omega) h.gl _ }
/-- An own row of integers grows: the rest stands. -/
theorem XAt.grown {g X : Nat} {w0 wx w' : World} {n : Pl.Nt} {ts : List Pl.Trk} {tA : Option Addr} {tc : Nat} {sv : Value} {row : Option Nat} (h : XAt g X w0 wx n ts tA tc sv) (hg : wx.grownBy w' row) (hr : ∀ k, row = some k → w0.heap.size ≤ k ∧ ∃ cur, wx.heap[k]? = some (.cells cur 3 (0, 0))) : XAt g X w0 w' n ts tA tc sv := by
  have hX : some X ≠ row := fun e => by
    obtain ⟨_, cur, hc⟩ := hr X e.symm
    rw [h.box] at hc
    injection hc with hc
    injection hc with _ hc _
    cases hc
  refine { h with box := (hg.block X (lt_of_block h.box) hX).trans h.box, row := ⟨h.row.1, ?_⟩, kb := h.kb.grow hg (fun k hk => (hr k hk).1) h.gl }
  rcases h.row.2 with h2 | ⟨q, cap, cur, hv, hq, hh, r⟩
  · exact .inl h2
  · refine .inr ⟨q, cap, cur, hv, hq, (hg.block q (lt_of_block hh) (fun e => ?_)).trans hh, r⟩
    obtain ⟨_, cur2, hc⟩ := hr q e.symm
    rw [hh] at hc
    injection hc with hc
    injection hc with _ hc _
    cases hc
theorem int_row {w : World} {base : Nat} {A : Option Addr} {c m : Nat} {xs : List Int} (h : OwnInts w base A c xs) : ∀ k, (Value.slice A m c).ownBlock = some k → base ≤ k ∧ ∃ cur, w.heap[k]? = some (.cells cur 3 (0, 0)) := fun k e => by
  rcases h.2 with ⟨hv, _⟩ | ⟨q, cap, cur, hv, hb, hh, _⟩
  · injection hv with hv _ _; subst hv; simp [Value.ownBlock] at e
  · injection hv with hv _ _
    subst hv
    simp [Value.ownBlock] at e
    subst e
    exact ⟨hb, cur, hh⟩
theorem int_ne {w : World} {base X T : Nat} {A : Option Addr} {c m : Nat} {xs : List Int} {z : Array Value} (h : OwnInts w base A c xs) (hX : w.heap[X]? = some (.cells z T (0, 0))) (hT : T ≠ 3) : (Value.slice A m c).ownBlock ≠ some X := fun e => by
  obtain ⟨_, cur, hc⟩ := int_row h X e
  rw [hX] at hc
  injection hc with hc
  injection hc with _ hc _
  exact hT hc
/-- 'append' of a line onto an own row, in a region that draws its order. -/
theorem step_app_trk {P : Program} {w : World} {ops : Array Oper} {o : Oper} {a : Act} {K : Act → World → Prop} {Q : Exit → Act → World → Prop} {E : Prop} (hgd : o.guard = none) (s x : Operand) (t : TypeId)
    (ho : o.op = .call { callee := .builtin .append, args := #[s, x], argTypes := #[t, t] })
    (base : Nat) (ht : P.underlying t = some (.slice 47))
    (hi : (P.info? 47).map (fun i => (i.zero, i.size, i.bytes)) = some (some (.agg #[.int .i64 0, .int .i64 0, .int .i64 0, .int .i64 0, .int .i64 0, .int .i64 0, .int .i64 0, .int .i64 0, .bool false]), 9, 72))
    (A : Option Addr) (c : Nat) (ts : List Pl.Trk) (hs : a.eval s = .slice A ts.length c) (hown : OwnTrks w base A c ts)
    (b c' : Nat) (tr : Pl.Trk) (hx : a.eval x = .slice (some ⟨b, 0, none⟩) 1 c') (hr : ∀ j u, (trkCells tr)[j]? = some u → w.cell? ⟨b, j, none⟩ = some u)
    (hlen : ts.length ≤ 1000) (hbase : base ≤ w.heap.size)
    (h : ∀ A2 c2 w', OwnTrks w' base A2 c2 (ts ++ [tr]) → w.grownBy w' (Value.slice A ts.length c).ownBlock → K (a.put o.dst (.slice A2 (ts.length + 1) c2)) w') :
    if Region.wanted o (yielded ops a.tmps) = true then Oper.wp P o a w K Q else E := by
  obtain ⟨i, h1, h2, h3, h4⟩ := info_parts hi
  refine step_append_any w hgd s x t ho base 47 i _ 9 72 ht h1 h2 h3 h4 rfl (by omega) (.slice A ts.length c) ts.length (ts.flatMap trkCells) hs hown (b + 1) _ 1 c' (trkCells tr) hx (trk_reads hr (by omega))
    trk_one (by simp only [maxLen]; omega) (by omega) hbase ?_
  intro v' w' hown' hg _
  obtain ⟨A2, c2, rfl⟩ := own_slice hown'
  refine h A2 c2 w' ?_ hg
  unfold OwnTrks
  simpa [List.flatMap_append] using hown'
theorem XAt.drew {g X : Nat} {w0 wx : World} {n : Pl.Nt} {ts : List Pl.Trk} {tA : Option Addr} {tc : Nat} {sv : Value} (h : XAt g X w0 wx n ts tA tc sv) : XAt g X w0 wx.drew n ts tA tc sv := { h with kb := h.kb.drew, box := h.box, row := h.row }

set_option maxRecDepth 20000 in
set_option maxHeartbeats 40000000 in
theorem law9 (A : Option Addr) (cp : Nat) (xs : List Int) (w : World) (hx : Ints w w.heap.size A xs) (hl : xs.length ≤ 9223372036854775807) :
    Calls Try.prog 9 #[.slice A xs.length cp] w fun e w' => e = .returned (.bool true) ∧ Below w.heap.size w w' := by
  go_enter Try.func9, Try.ntmps9
  go_wp2_with fail
  refine (newBag_any A cp xs w hx hl).mono ?_
  rintro e w1 ⟨g, rfl, hgw, hb1, hB1⟩
  have HB1 := Lib.hid hB1
  have hg1 := hb1.lt
  go_wp2_with fail
  refine (netOf_any g 5 6 w1 hb1 (by omega) (by omega) (by omega) (by omega)).mono ?_
  rintro e w2 ⟨n, n_tA, n_sA, n_tc, n_sc, rfl, htr, hsh, hn, k12⟩
  have Htr := Lib.hid htr
  have Hsh := Lib.hid hsh
  have Hn := Lib.hid hn
  have K12 := Lib.hid k12
  have b2 := k12.bag
  clear htr hsh hn k12 hB1 hx
  go_wp2_with fail
  refine (coach_any g w2 b2).mono ?_
  rintro e w3 ⟨c, c_gA, c_bA, c_hA, c_gc, c_bc, c_hc, rfl, hga, hbr, hhe, hc, k23⟩
  have Hga := Lib.hid hga
  have Hbr := Lib.hid hbr
  have Hhe := Lib.hid hhe
  have Hc := Lib.hid hc
  have K23 := Lib.hid k23
  clear hga hbr hhe hc k23
  go_wp2_with fail
  have hNb := blk_alloc (heap_alloc_new w3 (.cells #[.int .i64 n.stops, .slice n_tA n.tracks.length n_tc, .slice n_sA n.shops.length n_sc] 27)) (.cells #[.slice c_gA c.gauges.length c_gc, .int .i64 c.size, .int .i64 c.load, .slice c_bA c.brakes.length c_bc, .slice c_hA c.heats.length c_hc, .bool c.hooks] 30)
  have hCb : ((w3.alloc (.cells #[.int .i64 n.stops, .slice n_tA n.tracks.length n_tc, .slice n_sA n.shops.length n_sc] 27)).alloc (.cells #[.slice c_gA c.gauges.length c_gc, .int .i64 c.size, .int .i64 c.load, .slice c_bA c.brakes.length c_bc, .slice c_hA c.heats.length c_hc, .bool c.hooks] 30)).heap[w3.heap.size + 1]? = some (.cells #[.slice c_gA c.gauges.length c_gc, .int .i64 c.size, .int .i64 c.load, .slice c_bA c.brakes.length c_bc, .slice c_hA c.heats.length c_hc, .bool c.hooks] 30 (0, 0)) := by
    have := heap_alloc_new (w3.alloc (.cells #[.int .i64 n.stops, .slice n_tA n.tracks.length n_tc, .slice n_sA n.shops.length n_sc] 27)) (.cells #[.slice c_gA c.gauges.length c_gc, .int .i64 c.size, .int .i64 c.load, .slice c_bA c.brakes.length c_bc, .slice c_hA c.heats.length c_hc, .bool c.hooks] 30)
    simpa using this
  have hb34 : Below w3.heap.size w3 ((w3.alloc (.cells #[.int .i64 n.stops, .slice n_tA n.tracks.length n_tc, .slice n_sA n.shops.length n_sc] 27)).alloc (.cells #[.slice c_gA c.gauges.length c_gc, .int .i64 c.size, .int .i64 c.load, .slice c_bA c.brakes.length c_bc, .slice c_hA c.heats.length c_hc, .bool c.hooks] 30)) := ((Below.refl _ _).alloc (Nat.le_refl _) _).alloc (by simp) _
  have hD := dealt_of n n_tA n_sA n_tc n_sc c c_gA c_bA c_hA c_gc c_bc c_hc hg1 Htr.out Hsh.out Hn.out (by omega) (by omega) K12.out Hga.out Hbr.out Hhe.out Hc.out K23.out hb34 hNb hCb (Nat.le_refl _) (by omega)
  have hW4 : Below w.heap.size w ((w3.alloc (.cells #[.int .i64 n.stops, .slice n_tA n.tracks.length n_tc, .slice n_sA n.shops.length n_sc] 27)).alloc (.cells #[.slice c_gA c.gauges.length c_gc, .int .i64 c.size, .int .i64 c.load, .slice c_bA c.brakes.length c_bc, .slice c_hA c.heats.length c_hc, .bool c.hooks] 30)) := by
    have hs12 := K12.out.size
    have hs23 := K23.out.size
    have hs1 := HB1.out.size
    exact ((HB1.out.trans (K12.out.below hgw hg1)).trans (K23.out.below hgw (by omega))).trans (hb34.mono (by omega))
  have ht6 : n.tracks.length ≤ 6 := by have := Hn.out.2.2.2.1; omega
  clear Htr Hsh Hn K12 Hga Hbr Hhe Hc K23 hb34 hNb hCb b2 HB1
  generalize hQ : w3.heap.size + 1 = Q at hD ⊢
  generalize (w3.alloc (.cells #[.int .i64 n.stops, .slice n_tA n.tracks.length n_tc, .slice n_sA n.shops.length n_sc] 27)).alloc (.cells #[.slice c_gA c.gauges.length c_gc, .int .i64 c.size, .int .i64 c.load, .slice c_bA c.brakes.length c_bc, .slice c_hA c.heats.length c_hc, .bool c.hooks] 30) = w4 at hD hW4 ⊢
  generalize w3.heap.size = P at hD ⊢
  clear hQ
  have HW4 := Lib.hid hW4
  clear hW4
  obtain ⟨gb, hgA, hgb⟩ := hD.gauges
  subst hgA
  have D0 := Lib.hid hD
  have hst1 := hD.st
  have hst6 := hD.st6
  have hng := hD.ng
  have hlg := hD.lg
  have hP := lt_of_block hD.b4
  have hQ := lt_of_block hD.b5
  have hS : w4.drew.cell? ⟨P, 0, none⟩ = some (.int .i64 n.stops) ∧ w4.drew.cell? ⟨Q, 0, none⟩ = some (.slice (some ⟨gb, 0, none⟩) c.gauges.length c_gc) := ⟨hD.drew.ncells.1, hD.drew.ccells.1⟩
  have HW := Lib.hid (IntWalk.i64_in (n.stops - 1) ⟨by omega, by omega⟩)
  clear hD
  go_region_held3 (fun w' => w'.cell? ⟨P, 0, none⟩ = some (.int .i64 n.stops) ∧ w'.cell? ⟨Q, 0, none⟩ = some (.slice (some ⟨gb, 0, none⟩) c.gauges.length c_gc))
    (first | go_keep | exact hS)
    (first
      | (go_at_call 18; rw [HW.out]; refine (up_any g _ _ D0.out.drew.bag (by omega)).mono ?_; rintro e w5 ⟨fr, rfl, hf0, hf1, hB5⟩; have D5 := Lib.hid (D0.out.drew.bagged hB5); have HB5 := Lib.hid hB5; clear hB5; have hS := And.intro D5.out.ncells.1 D5.out.ccells.1)
      | (go_at_call 19; refine (one_any g gb 0 _ c.gauges _ D5.out.bag D5.out.ga.ints hgb hng (by omega)).mono ?_; rintro e w6 ⟨ga, rfl, hgm, hB6⟩; have D6 := Lib.hid (D5.out.bagged hB6); have HB6 := Lib.hid hB6; clear hB6; have hS := And.intro D6.out.ncells.1 D6.out.ccells.1))
  have HW6 := Lib.hid (HW4.out.trans (((((Kb.refl D0.out.bag).drew.bagged HB5.out).bagged HB6.out)).below hgw D0.out.bag.lt))
  clear HW4 HB5 HB6 hS
  have HQ := Lib.hid (D6.out.question hf0 (show fr ≤ n.stops - 1 by omega) hgm)
  have hgB := D6.out.gB
  have hg6 := D6.out.bag.lt
  have HT6 := Lib.hid ht6
  clear ht6
  have hnc := D6.out.ncells
  have hcc := D6.out.ccells
  obtain ⟨z0, z1, z2⟩ := hnc
  obtain ⟨x0, x1, x2, x3, x4, x5⟩ := hcc
  go_wp2_with fail
  refine (things_any c (some ⟨gb, 0, none⟩) c_bA c_hA c_gc c_bc c_hc w6 D6.out.creads).mono ?_
  rintro e w7 ⟨tA, tcp, rfl, ho7, hb7⟩
  have D7 := Lib.hid (D6.out.below hb7)
  have HW7 := Lib.hid (HW6.out.trans (hb7.mono HW6.out.size))
  have HO7 := Lib.hid ho7
  have hal := missing_length c
  have HT30 : Hid (∀ x ∈ Pl.missing c, 0 ≤ x ∧ x ≤ 30) := fun x hx => by
    have := (missing_thing hx).1
    rcases this with h | h | h | h <;> omega
  obtain ⟨all, hall⟩ : ∃ all, all = Pl.missing c := ⟨_, rfl⟩
  rw [← hall] at HO7 hal HT30 ⊢
  have HALL := Lib.hid hall
  have hg7 := D7.out.bag.lt
  clear z0 z1 z2 x0 x1 x2 x3 x4 x5 HW6 ho7 hb7 hall
  go_wp2_with fail
  go_loopw [9, 10] (fun v iv wr => ∃ (i : Nat) (sA : Option Addr) (sc : Nat) (sm : List Int), i ≤ all.length ∧ v = .slice sA sm.length sc ∧ iv = .int .i64 i ∧ Hid (OwnInts wr w7.heap.size sA sc sm) ∧ Hid (sm.Sublist (all.take i)) ∧ Hid (Kb g w7 wr)) (fun _ i _ => all.length - (intOf i).toNat)
  case atStart => exact ⟨0, none, 0, [], by omega, rfl, rfl, OwnInts.nil _ _, List.nil_sublist _, Kb.refl D7.out.bag⟩
  case round =>
    obtain ⟨i, sA, sc, sm, hi, rfl, rfl, hO, hSub, hK⟩ := hrel
    have hKs := hK.out.size
    have hsml : sm.length ≤ 10 := by have := hSub.out.length_le; simp at this; omega
    by_cases hil : i < all.length
    · have hii : (i : Int) < (all.length : Int) := by omega
      obtain ⟨b, off, hta, hbt, hc7⟩ := HO7.out.ints i all[i] (List.getElem?_eq_getElem hil)
      subst hta
      have hbg : b ≠ g := by have := (own_lt HO7.out _ rfl).1; dsimp only at this; omega
      go_wp2_with fail
      refine (chance_any g _ _ wr hK.out.bag (by omega) (by omega)).mono ?_
      rintro e wc ⟨bb, rfl, hBc⟩
      have hkc := hBc.kb hK.out
      have hKc := hK.out.trans hkc
      have hOc : OwnInts wc w7.heap.size sA sc sm := hkc.row hg7 hO.out
      have HKc := Lib.hid hKc
      have HOc := Lib.hid hOc
      cases bb
      · have hS2 : Hid (sm.Sublist (all.take (i + 1))) := hSub.out.trans (List.take_sublist_take_left (by omega))
        clear hkc hKc hOc hBc
        go_wp2_with fail
        go_roundw
        case rel => exact ⟨i + 1, sA, sc, sm, by omega, rfl, by go_num, HOc, hS2, HKc⟩
        case measure => simp [intOf]; omega
      · have hcc := (hKc.cell (p := ⟨b, off + i, none⟩) hbt hbg).trans hc7
        have hbc : b < wc.heap.size := by have := hKc.size; omega
        have hS2 : Hid ((sm ++ [all[i]]).Sublist (all.take (i + 1))) := by
          show (sm ++ [all[i]]).Sublist (all.take (i + 1))
          rw [List.take_add_one, List.getElem?_eq_getElem hil]
          exact hSub.out.append (List.Sublist.refl _)
        generalize all[i] = x at hcc hS2 hc7
        clear hkc hKc hOc hBc
        have hs7c := HKc.out.size
        go_wp2_with (at_builtin; refine wpl_app_ints rfl (.tmp 50) (.tmp 55) 22 rfl w7.heap.size Try.underlying22 int_info sA sc sm rfl (own_alloc HOc.out _) (wc.heap.size + 1) (some ⟨wc.heap.size, 0, none⟩) 1 [x] rfl (ints_one _ _ _ (by simp) (by omega)) (by simp; omega) (by simp; omega) ?_; intro A3 c3 w4' hown4 hg4 hat4; have HO4 := Lib.hid hown4; have HK4 := Lib.hid ((HKc.out.alloc (.cells #[.int .i64 x] 3)).grow hg4 (own_from HOc.out) hg7); clear hown4 hg4 hat4)
        go_roundw
        case rel => exact ⟨i + 1, A3, c3, sm ++ [x], by omega, by simp, by go_num, HO4, hS2, HK4⟩
        case measure => simp [intOf]; omega
    · obtain rfl : i = all.length := by omega
      have hni : ¬ (all.length : Int) < (all.length : Int) := by omega
      have hsub : sm.Sublist all := by have := hSub.out; rwa [List.take_length] at this
      have D8 := Lib.hid (D7.out.kb hK.out)
      have HW8 := Lib.hid (HW7.out.trans (hK.out.below (by have := HW7.out.size; omega) hg7))
      have HSM := Lib.hid hO.out.ints
      obtain ⟨w8, rfl⟩ : ∃ w8, w8 = wr := ⟨_, rfl⟩
      have HSUB : Hid (sm.Sublist (Pl.missing c)) := by rw [← HALL.out]; exact hsub
      have HT30s : Hid (∀ x ∈ sm, 0 ≤ x ∧ x ≤ 30) := fun x hx => HT30.out x (hsub.subset hx)
      clear hsub hSub hK hO hil
      have hnc := D8.out.ncells
      have hcc := D8.out.ccells
      obtain ⟨z0, z1, z2⟩ := hnc
      obtain ⟨x0, x1, x2, x3, x4, x5⟩ := hcc
      go_wp2_with fail
      refine (copyCoach_any c (some ⟨gb, 0, none⟩) c_bA c_hA c_gc c_bc c_hc w8 D8.out.creads (by have := D8.out.lg; omega) (by have := D8.out.lb; omega) (by have := D8.out.lh; omega)).mono ?_
      rintro e w9 ⟨k_gA, k_bA, k_hA, k_gc, k_bc, k_hc, rfl, hcr, hb9⟩
      have hgc := given_missing D8.out.ft HSUB.out
      have hcall := givenP_any c k_gA k_bA k_hA k_gc k_bc k_hc sA sc sm w9 hcr ((HSM.out.below hb9).more hb9.size) (by omega) ⟨by have := D8.out.lg; omega, by have := D8.out.lb; omega, by have := D8.out.lh; omega⟩ HT30s.out
      rw [hgc.1] at hcall
      obtain ⟨d, hd⟩ : ∃ d, d = Pl.given c sm := ⟨_, rfl⟩
      rw [← hd] at hcall
      have HDD := Lib.hid hd
      have HCALL := Lib.hid hcall
      have D9 := Lib.hid (D8.out.below hb9)
      have HW9 := Lib.hid (HW8.out.trans (hb9.mono HW8.out.size))
      clear z0 z1 z2 x0 x1 x2 x3 x4 x5 hcr hb9 hcall hgc hd
      go_wp2_with fail
      refine HCALL.out.mono ?_
      rintro e w10 ⟨d_gA, d_bA, d_hA, d_gc, d_bc, d_hc, rfl, hdr, hb10⟩
      have D10 := Lib.hid (D9.out.below hb10)
      have HW10 := Lib.hid (HW9.out.trans (hb10.mono HW9.out.size))
      have HDR := Lib.hid hdr
      clear hdr hb10 HCALL
      go_wp2_with fail
      obtain ⟨wk, hwk⟩ : ∃ wk, wk = w10.alloc (.cells #[.slice d_gA d.gauges.length d_gc, .int .i64 d.size, .int .i64 d.load, .slice d_bA d.brakes.length d_bc, .slice d_hA d.heats.length d_hc, .bool d.hooks] 30) := ⟨_, rfl⟩
      obtain ⟨K, hK⟩ : ∃ K, K = w10.heap.size := ⟨_, rfl⟩
      have hbk : wk.heap[K]? = some (.cells #[.slice d_gA d.gauges.length d_gc, .int .i64 d.size, .int .i64 d.load, .slice d_bA d.brakes.length d_bc, .slice d_hA d.heats.length d_hc, .bool d.hooks] 30 (0, 0)) := by rw [hwk, hK]; exact heap_alloc_new w10 _
      have hkk : Kb g w10 wk := by rw [hwk]; exact (Kb.refl D10.out.bag).alloc _
      rw [← hwk, ← hK]
      have Dk := Lib.hid (D10.out.kb hkk)
      have HBK := Lib.hid hbk
      have HKK := Lib.hid hkk
      have HKS := Lib.hid hK
      have hQK : Q < K := by rw [hK]; exact lt_of_block D10.out.b5
      have hKl := lt_of_block hbk
      have hgK : K ≠ g := by have := D10.out.bag.lt; omega
      have hfl := fitL_of D10.out.ft
      obtain ⟨fs1, fs2, fl1, fl2⟩ : (1 ≤ c.size ∧ c.size ≤ 9) ∧ 1 ≤ c.load ∧ c.load ≤ 20 ∧ True := ⟨⟨hfl.s1, hfl.s2⟩, hfl.l1, hfl.l2, trivial⟩
      obtain ⟨fs1, fs3⟩ := fs1
      have hS := And.intro Dk.out.drew.ccells.2.1 Dk.out.drew.ccells.2.2.1
      have tok1 : True := trivial
      have hQw : Q < wk.heap.size := by omega
      clear hwk hK hbk hkk hfl fl2
      go_region_held3 (fun W => W.cell? ⟨Q, 1, none⟩ = some (.int .i64 c.size) ∧ W.cell? ⟨Q, 2, none⟩ = some (.int .i64 c.load))
        (first | go_keep | exact hS | exact two_set hQK hS | exact two_set hQK (two_set hQK hS))
        (first
          | (go_at_call 47; have _t := tok1; refine (from_any g 1 c.size _ Dk.out.drew.bag (by omega) (by omega) (by omega) (by omega)).mono ?_; rintro e wA ⟨s1, rfl, hs1a, hs1b, hBA⟩; have DA := Lib.hid (Dk.out.drew.bagged hBA); have KA := Lib.hid ((Kb.refl Dk.out.bag).drew.bagged hBA); have hS := And.intro DA.out.ccells.2.1 DA.out.ccells.2.2.1; clear hBA _t tok1)
          | (go_at_call 47; refine (from_any g 1 c.load _ DA.out.bag (by omega) (by omega) (by omega) (by omega)).mono ?_; rintro e wB ⟨l1, rfl, hl1a, hl1b, hBB⟩; have DB := Lib.hid (DA.out.bagged hBB); have KB := Lib.hid (KA.out.bagged hBB); have hS := And.intro DB.out.ccells.2.1 DB.out.ccells.2.2.1; have hbB := (KB.out.block hKl hgK).trans HBK.out; have HBB := Lib.hid hbB; have y1 := blk_cell hbB 1; have y2 := blk_cell hbB 2; have f1 := blk_frozen hbB 1; have f2 := blk_frozen hbB 2; clear hBB hbB))
      have hb11 : ((wB.setCell ⟨K, 1, none⟩ (.int .i64 s1)).setCell ⟨K, 2, none⟩ (.int .i64 l1)).heap[K]? = some (.cells #[.slice d_gA d.gauges.length d_gc, .int .i64 s1, .int .i64 l1, .slice d_bA d.brakes.length d_bc, .slice d_hA d.heats.length d_hc, .bool d.hooks] 30 (0, 0)) := by
        have := blk_set (i := 2) (blk_set (i := 1) HBB.out (.int .i64 s1)) (.int .i64 l1)
        simpa using this
      have k11 : Kb g w10 ((wB.setCell ⟨K, 1, none⟩ (.int .i64 s1)).setCell ⟨K, 2, none⟩ (.int .i64 l1)) := ((HKK.out.trans KB.out).setCell (p := ⟨K, 1, none⟩) (by rw [HKS.out]; exact Nat.le_refl _) D10.out.bag.lt _).setCell (p := ⟨K, 2, none⟩) (by rw [HKS.out]; exact Nat.le_refl _) D10.out.bag.lt _
      obtain ⟨w11, hw11⟩ : ∃ w11, w11 = (wB.setCell ⟨K, 1, none⟩ (.int .i64 s1)).setCell ⟨K, 2, none⟩ (.int .i64 l1) := ⟨_, rfl⟩
      rw [← hw11] at hb11 k11 ⊢
      have hbt := better_car (s1 := s1) (l1 := l1) D10.out.ft HSUB.out (by omega) (by omega) (by omega) (by omega)
      rw [← HDD.out] at hbt
      obtain ⟨e, he⟩ : ∃ e : Pl.Cch, e = { d with size := s1, load := l1 } := ⟨_, rfl⟩
      have HBT : Hid (Pl.fits e = 0 ∧ Pl.Finer c e) := by rw [he]; exact hbt
      have HRE : Hid (CReads w11 w10.heap.size e d_gA d_bA d_hA d_gc d_bc d_hc) := by rw [he]; exact ⟨(kb_ints k11 D10.out.bag HDR.out.gauges (Nat.le_refl _)), (kb_ints k11 D10.out.bag HDR.out.brakes (Nat.le_refl _)), (kb_ints k11 D10.out.bag HDR.out.heats (Nat.le_refl _)), HDR.out.lenG, HDR.out.lenB, HDR.out.lenH⟩
      have HB11 : Hid (w11.heap[K]? = some (.cells #[.slice d_gA e.gauges.length d_gc, .int .i64 e.size, .int .i64 e.load, .slice d_bA e.brakes.length d_bc, .slice d_hA e.heats.length d_hc, .bool e.hooks] 30 (0, 0))) := by rw [he]; exact hb11
      have D11 := Lib.hid (D10.out.kb k11)
      have hK11 := lt_of_block hb11
      have HW11 := Lib.hid (HW10.out.trans (k11.below (by have := HW10.out.size; omega) D10.out.bag.lt))
      have hs1011 := k11.size
      clear hS y1 y2 f1 f2 HBB DA DB KA KB Dk HBK HKK hb11 k11 hw11 hbt he hl1a hl1b hs1a hs1b HDR HDD HT30s HT30 HALL HO7 HSM
      have hnc := D11.out.ncells
      have hcc := D11.out.ccells
      obtain ⟨z0, z1, z2⟩ := hnc
      obtain ⟨x0, x1, x2, x3, x4, x5⟩ := hcc
      go_wp2_with fail
      refine (copyNet_any n n_tA n_sA n_tc n_sc w11 D11.out.nreads (by have := HT6.out; omega) (by have := D11.out.s6; omega)).mono ?_
      rintro e' w12 ⟨tA2, sA2, tc2, sc2, rfl, hot, _, hb12⟩
      have D12 := Lib.hid (D11.out.below hb12)
      have HW12 := Lib.hid (HW11.out.trans (hb12.mono HW11.out.size))
      have HB12 := Lib.hid (blk_below HB11.out hb12 hK11)
      have HRE12 := Lib.hid (HRE.out.below (hb12.mono hs1011))
      have hs12 := hb12.size
      clear z0 z1 z2 x0 x1 x2 x3 x4 x5
      go_upto_region 14 with fail
      obtain ⟨wx, hwx⟩ : ∃ wx, wx = w12.alloc (.cells #[.int .i64 n.stops, .slice tA2 n.tracks.length tc2, .slice sA2 n.shops.length sc2] 27) := ⟨_, rfl⟩
      obtain ⟨X, hX⟩ : ∃ X, X = w12.heap.size := ⟨_, rfl⟩
      have hb1x : Below w12.heap.size w12 wx := by rw [hwx]; exact (Below.refl _ _).alloc (Nat.le_refl _) _
      have hx0 : XAt g X w11 wx n n.tracks tA2 tc2 (.slice sA2 n.shops.length sc2) := by
        have hbx := heap_alloc_new w12 (.cells #[.int .i64 n.stops, .slice tA2 n.tracks.length tc2, .slice sA2 n.shops.length sc2] 27)
        exact ⟨by rw [hwx, hX]; exact hbx, row_below hot hb1x (Nat.le_refl _), ((Kb.refl D11.out.bag).step hb12 (Nat.le_refl _) D11.out.bag.lt).step hb1x hs12 D11.out.bag.lt, XOk.same D11.out.ck HT6.out, D11.out.bag.lt, by omega⟩
      rw [← hwx, ← hX]
      have HX0 := Lib.hid hx0
      have HKX : Hid (K < X) := by show K < X; omega
      have HPX : Hid (P < w11.heap.size) := lt_of_block D11.out.b4
      clear hot hb12 hwx hX hx0 hb1x
      have z0 : wx.cell? ⟨P, 0, none⟩ = some (.int .i64 n.stops) := (D11.out.kb HX0.out.kb).ncells.1
      go_cut [79] (fun v wy => ∃ b : Bool, v = .bool b ∧ Hid (b = true → 1 < n.stops) ∧ Hid (XAt g X w11 wy n n.tracks tA2 tc2 (.slice sA2 n.shops.length sc2)))
      case first =>
        by_cases hst : 1 < n.stops
        · go_wp2_with (go_at_call 28; refine (chance_any g _ _ wx HX0.out.kb.bag (by omega) (by omega)).mono ?_; rintro e' wc ⟨bb, rfl, hBc⟩)
          go_meet
          exact ⟨bb, rfl, fun _ => hst, HX0.out.bagged hBc⟩
        · go_wp2_with fail
          go_meet
          exact ⟨false, rfl, fun h => (by cases h), HX0.out⟩
      case rest =>
      obtain ⟨b, rfl, hst, hX1⟩ := hcut
      obtain ⟨wy, rfl⟩ : ∃ wy, wy = wc := ⟨_, rfl⟩
      clear z0 HX0
      go_upto_if 79 with fail
      go_cut [12] (fun v wy => v = .pointer (some ⟨X, 0, none⟩) ∧ ∃ (ts : List Pl.Trk) (tA : Option Addr) (tc : Nat), Hid (XAt g X w11 wy n ts tA tc (.slice sA2 n.shops.length sc2)))
      case first =>
        cases b
        · go_wp2_with fail
          go_meet
          exact ⟨rfl, n.tracks, tA2, tc2, hX1⟩
        · have hst1 := hst.out rfl
          have hSf : Hid (∀ W, XAt g X w11 W n n.tracks tA2 tc2 (.slice sA2 n.shops.length sc2) → W.cell? ⟨X, 1, none⟩ = some (.slice tA2 n.tracks.length tc2) ∧ W.cell? ⟨P, 0, none⟩ = some (.int .i64 n.stops)) := fun W h => ⟨blk_cell h.box 1, (D11.out.kb h.kb).ncells.1⟩
          have HY0 := Lib.hid hX1.out.drew
          have hS := hSf.out _ HY0.out
          obtain ⟨i0, t1, t2, t3, t4⟩ := info_parts trk_info
          have hwr : IntKind.i64.wrap (n.stops - 1) = n.stops - 1 := IntWalk.i64_in _ ⟨by omega, by omega⟩
          go_wp2_with fail
          refine wp_region_L (by kernel_rfl) (fun W => W.cell? ⟨X, 1, none⟩ = some (.slice tA2 n.tracks.length tc2) ∧ W.cell? ⟨P, 0, none⟩ = some (.int .i64 n.stops)) [19] ?_
          refine wpAnyL_take (i := 0) (v := ?v0) rfl (by kernel_rfl) (by kernel_rfl) (by kernel_rfl) (by kernel_rfl) (by rfl) (fun _ _ _ h => h) hS (Or.inl ⟨by rfl, ?hy0⟩) ?hr0
          case hy0 => (intro w hSw; (try dsimp only at hSw); go_simp; (try rfl))
          try simp only [Act.put, List.setIfInBounds_toArray]
          refine wpAnyL_take (i := 1) (v := ?v1) rfl (by kernel_rfl) (by kernel_rfl) (by kernel_rfl) (by kernel_rfl) (by rfl) (fun _ _ _ h => h) hS (Or.inl ⟨by rfl, ?hy1⟩) ?hr1
          case hy1 => (intro w hSw; (try dsimp only at hSw); go_simp; (try rfl))
          try simp only [Act.put]
          refine wpAnyL_take (i := 2) (v := ?v2) rfl (by kernel_rfl) (by kernel_rfl) (by kernel_rfl) (by kernel_rfl) (by rfl) (fun _ _ _ h => h) hS (Or.inl ⟨by rfl, ?hy2⟩) ?hr2
          case hy2 => (intro w hSw; (try dsimp only at hSw); go_simp; (try rfl))
          try simp only [Act.put]
          refine wpAnyL_take (i := 3) (v := ?v3) rfl (by kernel_rfl) (by kernel_rfl) (by kernel_rfl) (by kernel_rfl) (by rfl) (fun _ _ _ h => h) hS (Or.inl ⟨by rfl, ?hy3⟩) ?hr3
          case hy3 => (intro w hSw; (try dsimp only at hSw); go_simp; (try rfl))
          try simp only [Act.put]
          refine wpAnyL_take (i := 4) (v := ?v4) rfl (by kernel_rfl) (by kernel_rfl) (by kernel_rfl) (by kernel_rfl) (by rfl) (fun _ _ _ h => h) hS (Or.inl ⟨by rfl, ?hy4⟩) ?hr4
          case hy4 => (intro w hSw; (try dsimp only at hSw); go_simp; (try rfl))
          try simp only [Act.put]
          refine wpAnyL_take (i := 5) (v := ?v5) rfl (by kernel_rfl) (by kernel_rfl) (by kernel_rfl) (by kernel_rfl) (by rfl) (fun _ _ _ h => h) hS (Or.inl ⟨by rfl, ?hy5⟩) ?hr5
          case hy5 => (intro w hSw; (try dsimp only at hSw); go_simp; (try rfl))
          try simp only [Act.put]
          refine wpAnyL_take (i := 7) (v := ?v7) rfl (by kernel_rfl) (by kernel_rfl) (by kernel_rfl) (by kernel_rfl) (by rfl) (fun _ _ _ h => h) hS (Or.inl ⟨by rfl, ?hy7⟩) ?hr7
          case hy7 => (intro w hSw; (try dsimp only at hSw); go_simp; (try rfl))
          try simp only [Act.put]
          refine wpAnyL_take (i := 9) (v := ?v9) rfl (by kernel_rfl) (by kernel_rfl) (by kernel_rfl) (by kernel_rfl) (by rfl) (fun _ _ _ h => h) hS (Or.inl ⟨by rfl, ?hy9⟩) ?hr9
          case hy9 => (intro w hSw; (try dsimp only at hSw); go_simp; (try rfl))
          try simp only [Act.put]
          refine wpAnyL_take (i := 11) (v := ?v11) rfl (by kernel_rfl) (by kernel_rfl) (by kernel_rfl) (by kernel_rfl) (by rfl) (fun _ _ _ h => h) hS (Or.inl ⟨by rfl, ?hy11⟩) ?hr11
          case hy11 => (intro w hSw; (try dsimp only at hSw); go_simp; (try rfl))
          try simp only [Act.put]
          refine wpAnyL_take (i := 13) (v := ?v13) rfl (by kernel_rfl) (by kernel_rfl) (by kernel_rfl) (by kernel_rfl) (by rfl) (fun _ _ _ h => h) hS (Or.inl ⟨by rfl, ?hy13⟩) ?hr13
          case hy13 => (intro w hSw; (try dsimp only at hSw); go_simp; (try rfl))
          try simp only [Act.put]
          refine wpAnyL_one (i := 6) rfl (by kernel_rfl) ?_
          intro Kq hKq
          go_simp
          refine (from_any g 1 (n.stops - 1) _ HY0.out.kb.bag (by omega) (by omega) (by omega) (by omega)).mono ?_
          rintro e' v1 ⟨b1, rfl, hb1a, hb1b, hB0⟩
          have HY1 := Lib.hid (HY0.out.bagged hB0)
          have hS := hSf.out _ HY1.out
          refine hKq.out _ _ hS (fun _ => ?_)
          clear hKq Kq hB0
          try simp only [Act.put, List.setIfInBounds_toArray, List.set_cons_zero, List.set_cons_succ]
          refine wpAnyL_one (i := 8) rfl (by kernel_rfl) ?_
          intro Kq hKq
          go_simp
          refine (from_any g 1 9 _ HY1.out.kb.bag (by omega) (by omega) (by omega) (by omega)).mono ?_
          rintro e' v2 ⟨km, rfl, hkma, hkmb, hB1⟩
          have HY2 := Lib.hid (HY1.out.bagged hB1)
          have hS := hSf.out _ HY2.out
          refine hKq.out _ _ hS (fun _ => ?_)
          clear hKq Kq hB1
          try simp only [Act.put, List.setIfInBounds_toArray, List.set_cons_zero, List.set_cons_succ]
          refine wpAnyL_one (i := 10) rfl (by kernel_rfl) ?_
          intro Kq hKq
          go_simp
          refine (from_any g 1 3 _ HY2.out.kb.bag (by omega) (by omega) (by omega) (by omega)).mono ?_
          rintro e' v3 ⟨ga2, rfl, hga2a, hga2b, hB2⟩
          have HY3 := Lib.hid (HY2.out.bagged hB2)
          have hS := hSf.out _ HY3.out
          refine hKq.out _ _ hS (fun _ => ?_)
          clear hKq Kq hB2
          try simp only [Act.put, List.setIfInBounds_toArray, List.set_cons_zero, List.set_cons_succ]
          refine wpAnyL_one (i := 12) rfl (by kernel_rfl) ?_
          intro Kq hKq
          go_simp
          refine (from_any g 3 6 _ HY3.out.kb.bag (by omega) (by omega) (by omega) (by omega)).mono ?_
          rintro e' v4 ⟨rm, rfl, hrma, hrmb, hB3⟩
          have HY4 := Lib.hid (HY3.out.bagged hB3)
          have hS := hSf.out _ HY4.out
          refine hKq.out _ _ hS (fun _ => ?_)
          clear hKq Kq hB3
          try simp only [Act.put, List.setIfInBounds_toArray, List.set_cons_zero, List.set_cons_succ]
          refine wpAnyL_one (i := 14) rfl (by kernel_rfl) ?_
          intro Kq hKq
          go_simp
          refine (from_any g 6 14 _ HY4.out.kb.bag (by omega) (by omega) (by omega) (by omega)).mono ?_
          rintro e' v5 ⟨ld, rfl, hlda, hldb, hB4⟩
          have HY5 := Lib.hid (HY4.out.bagged hB4)
          have hS := hSf.out _ HY5.out
          refine hKq.out _ _ hS (fun _ => ?_)
          clear hKq Kq hB4
          try simp only [Act.put, List.setIfInBounds_toArray, List.set_cons_zero, List.set_cons_succ]
          refine wpAnyL_take (i := 15) (v := ?v15) rfl (by kernel_rfl) (by kernel_rfl) (by kernel_rfl) (by kernel_rfl) (by rfl) (fun _ _ _ h => h) hS (Or.inl ⟨by rfl, ?hy15⟩) ?hr15
          case hy15 => (intro w hSw; (try dsimp only at hSw); go_simp; (try rfl))
          try simp only [Act.put, List.setIfInBounds_toArray]
          refine wpAnyL_one (i := 16) rfl (by kernel_rfl) ?_
          intro Kq hKq
          go_simp
          have HY6 := Lib.hid (HY5.out.alloc (.cells #[.int .i64 0, .int .i64 b1, .int .i64 km, .int .i64 ga2, .int .i64 rm, .int .i64 0, .int .i64 0, .int .i64 ld, .bool false] 47))
          have hS := hSf.out _ HY6.out
          refine hKq.out _ _ hS (fun _ => ?_)
          clear hKq Kq
          try simp only [Act.put, List.setIfInBounds_toArray, List.set_cons_zero, List.set_cons_succ]
          refine wpAnyL_one (i := 17) rfl (by kernel_rfl) ?_
          intro Kq hKq
          refine step_app_trk (by rfl) (.tmp 81) (.tmp 96) 25 (by rfl) w11.heap.size Try.underlying25 trk_info tA2 tc2 n.tracks (by rfl) HY6.out.row v5.heap.size 1 ⟨0, b1, km, ga2, rm, 0, 0, ld, false⟩ (by rfl) (fun j u hu => (blk_cell (heap_alloc_new v5 (.cells (trkCells ⟨0, b1, km, ga2, rm, 0, 0, ld, false⟩).toArray 47)) j).trans (by simpa using hu)) (by have := HT6.out; omega) HY6.out.kb.size ?_
          intro A7 c7 w17 ho7 hg7
          have hte := trackErr_new (s := n.stops) (b := b1) (km := km) (gauge := ga2) (room := rm) (load := ld) (by omega) (by omega) (by omega) (by omega) (by omega) (by omega) (by omega) (by omega) (by omega) (by omega)
          obtain ⟨hb7, hX7⟩ := HY6.out.pushed ho7 hg7 (XOk.add D11.out.ck HT6.out hte)
          have hS : w17.cell? ⟨X, 1, none⟩ = some (.slice tA2 n.tracks.length tc2) ∧ w17.cell? ⟨P, 0, none⟩ = some (.int .i64 n.stops) := ⟨blk_cell hb7 1, ((World.cell?_of_block (hg7.block P (by have := HPX.out; have := HY6.out.kb.size; omega) (fun e => by have := (HY6.out.row.lt P e.symm).1; have := HPX.out; omega))).trans hS.2)⟩
          have f1 := blk_frozen hb7 1
          have HX7 := Lib.hid hX7
          refine hKq.out _ _ hS (fun _ => ?_)
          clear hKq Kq ho7 hg7 hb7 hX7 hte
          try simp only [Act.put, List.setIfInBounds_toArray]
          refine wpAnyL_take (i := 18) (v := ?v18) rfl (by kernel_rfl) (by kernel_rfl) (by kernel_rfl) (by kernel_rfl) (by rfl) (fun _ _ _ h => h) hS (Or.inl ⟨by rfl, ?hy18⟩) ?hr18
          case hy18 => (intro w hSw; (try dsimp only at hSw); go_simp; (try rfl))
          try simp only [Act.put]
          obtain ⟨y1, _⟩ := hS
          refine wpAnyL_late (i := 19) rfl (by kernel_rfl) (by rfl) ?_
          intro Kq hKq
          go_simp
          refine hKq.out _ _ ?_
          clear hKq Kq
          try simp only [Act.put, List.setIfInBounds_toArray, List.set_cons_zero, List.set_cons_succ]
          refine wpAnyL_done (by kernel_rfl) ?_
          go_wp2_with fail
          go_meet
          exact ⟨rfl, _, A7, c7, Lib.hid (by have h := HX7.out; simpa using h)⟩
      case rest =>
      obtain ⟨rfl, ts, tA3, tc3, hX3⟩ := hcut
      obtain ⟨wz, rfl⟩ : ∃ wz, wz = wc := ⟨_, rfl⟩
      have y2 : wz.cell? ⟨X, 2, none⟩ = some (.slice sA2 n.shops.length sc2) := blk_cell hX3.out.box 2
      have f2 := blk_frozen hX3.out.box 2
      have hX4 : Hid (XAt g X w11 (wz.setCell ⟨X, 2, none⟩ (.slice none 0 0)) n ts tA3 tc3 (.slice none (([] : List Int).length) 0)) := hX3.out.setShops _
      have hshr := rising_all (oe := 3) (by omega) (check_shops D11.out.ck)
      have HSHR : Hid (∀ s ∈ n.shops, 0 ≤ s ∧ s ≤ n.stops - 1) := hshr.1
      have HU0 : Hid (Upw 0 ((0 : Nat) : Int) []) := Upw.nil (by omega)
      have HM0 : Hid (∀ s ∈ n.shops, s < ((0 : Nat) : Int) → s ∈ ([] : List Int)) := fun s hs h0 => by have := (hshr.1 s hs).1; omega
      clear hX1 hst hshr
      go_wp2_with fail
      clear y2 f2
      go_loopw [13] (fun iv wr => ∃ (i : Nat) (A2 : Option Addr) (cp2 : Nat) (zs : List Int), (i : Int) ≤ n.stops ∧ iv = .int .i64 i ∧ Hid (XAt g X w11 wr n ts tA3 tc3 (.slice A2 zs.length cp2)) ∧ Hid (OwnInts wr w11.heap.size A2 cp2 zs) ∧ Hid (Upw 0 i zs) ∧ Hid (∀ s ∈ n.shops, s < (i : Int) → s ∈ zs)) (fun i _ => (n.stops - intOf i).toNat)
      case atStart => exact ⟨0, none, 0, [], by omega, rfl, hX4, OwnInts.nil _ _, HU0, HM0⟩
      case round =>
        obtain ⟨i, A2, cp2, zs, hi, rfl, hXr, hOr, hU, hM⟩ := hrel
        clear hX4 HU0 HM0
        have Dr := Lib.hid (D11.out.kb hXr.out.kb)
        have hzl := hU.out.len
        by_cases hil : (i : Int) < n.stops
        · have z0 := Dr.out.ncells.1
          have z2 := Dr.out.ncells.2.2
          have HSI := Lib.hid Dr.out.nreads.shops
          have hs6 := Dr.out.s6
          have hst6b := Dr.out.st6
          have HZL : Hid (zs.length ≤ 10) := by show _ ≤ _; omega
          have HU2 : Hid (Upw 0 ((i + 1 : Nat) : Int) (zs ++ [(i : Int)])) := hU.out.snoc (by omega)
          have HM2 : Hid (∀ s ∈ n.shops, s < ((i + 1 : Nat) : Int) → s ∈ zs ++ [(i : Int)]) := fun s hs h1 => by
            by_cases e : s = (i : Int)
            · simp [e]
            · exact List.mem_append_left _ (hM.out s hs (by omega))
          by_cases hin : (i : Int) ∈ n.shops
          · have hix : 0 ≤ idx n.shops (i : Int) := (idx_ge _ _).2 hin
            clear hin
            go_upto_region 21 with (go_at_call 29; refine (seat_any n_sA n_sc n.shops (i : Int) _ wr HSI.out (by omega)).mono ?_; rintro e' w' ⟨rfl, rfl⟩)
            obtain ⟨wd, rfl⟩ : ∃ wd, wd = wr := ⟨_, rfl⟩
            have HXd := hXr
            have HOd := hOr
            clear z0 z2
            have y2 : wd.cell? ⟨X, 2, none⟩ = some (.slice A2 zs.length cp2) := blk_cell HXd.out.box 2
            have f2 := blk_frozen HXd.out.box 2
            have hXd := lt_of_block HXd.out.box
            have hsd := HXd.out.kb.size
            go_wp2_with (at_builtin; refine wpl_app_ints rfl (.tmp 116) (.tmp 118) 22 rfl w11.heap.size Try.underlying22 int_info A2 cp2 zs rfl (own_alloc HOd.out _) (wd.heap.size + 1) (some ⟨wd.heap.size, 0, none⟩) 1 [(i : Int)] rfl (ints_one _ _ _ (by simp) (by omega)) (by have := HZL.out; simp; omega) (by simp; omega) ?_; intro A3 c3 w4' hown4 hg4 hat4; have hX4 := (HXd.out.alloc (.cells #[.int .i64 (i : Int)] 3)).grown hg4 (int_row (own_alloc HOd.out _)); have y2 := blk_cell hX4.box 2; have f2 := blk_frozen hX4.box 2; have HX4 := Lib.hid (hX4.setShops (.slice A3 (zs ++ [(i : Int)]).length c3)); have HO4 : Hid (OwnInts (w4'.setCell ⟨X, 2, none⟩ (.slice A3 (zs ++ [(i : Int)]).length c3)) w11.heap.size A3 c3 (zs ++ [(i : Int)])) := ownsRow_setCell_other hown4 (int_ne hown4 hX4.box (by decide)) _; clear hown4 hg4 hat4 hX4)
            go_roundw
            case rel => exact ⟨i + 1, A3, c3, zs ++ [(i : Int)], by omega, by go_num, Lib.hid (by have h := HX4.out; simpa using h), Lib.hid (by have h := HO4.out; simpa using h), HU2, HM2⟩
            case measure => simp [intOf]; omega
          · have hix : idx n.shops (i : Int) < 0 := (idx_lt _ _).2 hin
            have HU3 : Hid (Upw 0 ((i + 1 : Nat) : Int) zs) := hU.out.more
            have HM3 : Hid (∀ s ∈ n.shops, s < ((i + 1 : Nat) : Int) → s ∈ zs) := fun s hs h1 => hM.out s hs (by
              have : s ≠ (i : Int) := fun e => hin (e ▸ hs)
              omega)
            clear hin
            go_wp2_with (go_at_call 29; refine (seat_any n_sA n_sc n.shops (i : Int) _ wr HSI.out (by omega)).mono ?_; rintro e' w' ⟨rfl, rfl⟩)
            refine (chance_any g _ _ wr hXr.out.kb.bag (by omega) (by omega)).mono ?_
            rintro e' wd ⟨bb, rfl, hBc⟩
            have HXd := Lib.hid (hXr.out.bagged hBc)
            have HOd : Hid (OwnInts wd w11.heap.size A2 cp2 zs) := (hBc.kb hXr.out.kb).row hXr.out.gl hOr.out
            clear hBc
            cases bb
            · go_wp2_with fail
              go_roundw
              case rel => exact ⟨i + 1, A2, cp2, zs, by omega, by go_num, HXd, HOd, HU3, HM3⟩
              case measure => simp [intOf]; omega
            · clear z0 z2
              have y2 : wd.cell? ⟨X, 2, none⟩ = some (.slice A2 zs.length cp2) := blk_cell HXd.out.box 2
              have f2 := blk_frozen HXd.out.box 2
              have hXd := lt_of_block HXd.out.box
              have hsd := HXd.out.kb.size
              go_wp2_with (at_builtin; refine wpl_app_ints rfl (.tmp 116) (.tmp 118) 22 rfl w11.heap.size Try.underlying22 int_info A2 cp2 zs rfl (own_alloc HOd.out _) (wd.heap.size + 1) (some ⟨wd.heap.size, 0, none⟩) 1 [(i : Int)] rfl (ints_one _ _ _ (by simp) (by omega)) (by have := HZL.out; simp; omega) (by simp; omega) ?_; intro A3 c3 w4' hown4 hg4 hat4; have hX4 := (HXd.out.alloc (.cells #[.int .i64 (i : Int)] 3)).grown hg4 (int_row (own_alloc HOd.out _)); have y2 := blk_cell hX4.box 2; have f2 := blk_frozen hX4.box 2; have HX4 := Lib.hid (hX4.setShops (.slice A3 (zs ++ [(i : Int)]).length c3)); have HO4 : Hid (OwnInts (w4'.setCell ⟨X, 2, none⟩ (.slice A3 (zs ++ [(i : Int)]).length c3)) w11.heap.size A3 c3 (zs ++ [(i : Int)])) := ownsRow_setCell_other hown4 (int_ne hown4 hX4.box (by decide)) _; clear hown4 hg4 hat4 hX4)
              go_roundw
              case rel => exact ⟨i + 1, A3, c3, zs ++ [(i : Int)], by omega, by go_num, Lib.hid (by have h := HX4.out; simpa using h), Lib.hid (by have h := HO4.out; simpa using h), HU2, HM2⟩
              case measure => simp [intOf]; omega
        · have hie : (i : Int) = n.stops := by omega
          obtain ⟨w13, rfl⟩ : ∃ w13, w13 = wr := ⟨_, rfl⟩
          rw [hie] at hU hM
          have hsub : ∀ s ∈ n.shops, s ∈ zs := fun s hs => hM.out s hs (by have := (HSHR.out s hs).2; omega)
          obtain ⟨hck, hwd⟩ := wider_of D11.out.ck hXr.out.ok hU.out hsub
          obtain ⟨x, hx⟩ : ∃ x : Pl.Nt, x = ⟨n.stops, ts, zs⟩ := ⟨_, rfl⟩
          rw [← hx] at hck hwd
          have hst2 : x.stops = n.stops := by rw [hx]
          have HBA : Hid (∀ s, Pl.comes n c [] (fr, ga) s = true → Pl.asked n c fr ga s = 0 ∧ Pl.asked x e fr ga s = 0 ∧ Pl.comes x e [] (fr, ga) s = true ∧ ∃ t u, Pl.way n c fr ga s = some t ∧ Pl.way x e fr ga s = some u ∧ u.km ≤ t.km) := fun s hs => better_at D11.out.ck hck hst2 hwd HBT.out.2 HBT.out.1 HQ.out hs
          have HQ2 := Lib.hid (question_wider hck hst2 HBT.out.2 HBT.out.1 HQ.out)
          have HXN : Hid (NReads w13 w13.heap.size x tA3 A2 tc3 cp2) := by rw [hx]; exact ⟨hXr.out.row.trks, hOr.out.ints, by have := hXr.out.ok.len; show ts.length ≤ _; omega, by show zs.length ≤ _; omega⟩
          have HXB : Hid (w13.heap[X]? = some (.cells #[.int .i64 x.stops, .slice tA3 x.tracks.length tc3, .slice A2 x.shops.length cp2] 27 (0, 0))) := by rw [hx]; exact hXr.out.box
          have HKB : Hid (w13.heap[K]? = some (.cells #[.slice d_gA e.gauges.length d_gc, .int .i64 e.size, .int .i64 e.load, .slice d_bA e.brakes.length d_bc, .slice d_hA e.heats.length d_hc, .bool e.hooks] 30 (0, 0))) := (hXr.out.kb.block hK11 hgK).trans HB11.out
          have HKR : Hid (CReads w13 w13.heap.size e d_gA d_bA d_hA d_gc d_bc d_hc) := (kb_creads e d_gA d_bA d_hA d_gc d_bc d_hc hXr.out.kb D11.out.bag HRE.out hs1011).more (Nat.le_trans hs1011 hXr.out.kb.size)
          have HW13 := Lib.hid (HW11.out.trans (hXr.out.kb.below (by have := HW11.out.size; omega) hXr.out.gl))
          have hni : ¬ (i : Int) < n.stops := by omega
          clear hsub hck hwd hx hst2 hU hM hXr hOr hzl hie hi hil
          have hnc := Dr.out.ncells
          have hcc := Dr.out.ccells
          obtain ⟨z0, z1, z2⟩ := hnc
          obtain ⟨x0, x1, x2, x3, x4, x5⟩ := hcc
          go_wp2_with fail
          refine (reach_any n n_tA n_sA n_tc n_sc c (some ⟨gb, 0, none⟩) c_bA c_hA c_gc c_bc c_hc fr ga w13 Dr.out.nreads Dr.out.creads HQ.out).mono ?_
          rintro e' v1 ⟨lA, lcp, ys, rfl, _, hmem, hyl, hyI, hb1⟩
          have D14 := Lib.hid (Dr.out.below hb1)
          have XB14 := Lib.hid (blk_below HXB.out hb1 (lt_of_block HXB.out))
          have KB14 := Lib.hid (blk_below HKB.out hb1 (lt_of_block HKB.out))
          have XN14 := Lib.hid ((HXN.out.below hb1).more hb1.size)
          have KR14 := Lib.hid ((HKR.out.below hb1).more hb1.size)
          have HW14 := Lib.hid (HW13.out.trans (hb1.mono HW13.out.size))
          have HYI := Lib.hid hyI
          have HMEM := Lib.hid hmem
          have q0 : v1.cell? ⟨X, 0, none⟩ = some (.int .i64 x.stops) := blk_cell XB14.out 0
          have q1 : v1.cell? ⟨X, 1, none⟩ = some (.slice tA3 x.tracks.length tc3) := blk_cell XB14.out 1
          have q2 : v1.cell? ⟨X, 2, none⟩ = some (.slice A2 x.shops.length cp2) := blk_cell XB14.out 2
          have p0 : v1.cell? ⟨K, 0, none⟩ = some (.slice d_gA e.gauges.length d_gc) := blk_cell KB14.out 0
          have p1 : v1.cell? ⟨K, 1, none⟩ = some (.int .i64 e.size) := blk_cell KB14.out 1
          have p2 : v1.cell? ⟨K, 2, none⟩ = some (.int .i64 e.load) := blk_cell KB14.out 2
          have p3 : v1.cell? ⟨K, 3, none⟩ = some (.slice d_bA e.brakes.length d_bc) := blk_cell KB14.out 3
          have p4 : v1.cell? ⟨K, 4, none⟩ = some (.slice d_hA e.heats.length d_hc) := blk_cell KB14.out 4
          have p5 : v1.cell? ⟨K, 5, none⟩ = some (.bool e.hooks) := blk_cell KB14.out 5
          clear z0 z1 z2 x0 x1 x2 x3 x4 x5 hb1 hyI hmem
          go_wp2_with fail
          refine (reach_any x tA3 A2 tc3 cp2 e d_gA d_bA d_hA d_gc d_bc d_hc fr ga v1 XN14.out KR14.out HQ2.out).mono ?_
          rintro e' v2 ⟨mA, mcp, ms, rfl, _, hmem2, hml, hmI, hb2⟩
          have D15 := Lib.hid (D14.out.below hb2)
          have XB15 := Lib.hid (blk_below XB14.out hb2 (lt_of_block XB14.out))
          have KB15 := Lib.hid (blk_below KB14.out hb2 (lt_of_block KB14.out))
          have XN15 := Lib.hid ((XN14.out.below hb2).more hb2.size)
          have KR15 := Lib.hid ((KR14.out.below hb2).more hb2.size)
          have HW15 := Lib.hid (HW14.out.trans (hb2.mono HW14.out.size))
          have HYI2 := Lib.hid ((HYI.out.below hb2).more hb2.size)
          have HMI := Lib.hid hmI
          have HMEM2 := Lib.hid hmem2
          clear q0 q1 q2 p0 p1 p2 p3 p4 p5 hb2 hmI hmem2 HYI D14 XB14 KB14 XN14 KR14 HW14
          go_wp2_with fail
          go_loopw [18] (fun iv wr => ∃ j : Nat, j ≤ ys.length ∧ iv = .int .i64 j ∧ Hid (Below v2.heap.size v2 wr)) (fun i _ => ys.length - (intOf i).toNat)
          case atStart => exact ⟨0, by omega, rfl, Below.refl _ _⟩
          case round =>
            obtain ⟨j, hj, rfl, hB⟩ := hrel
            by_cases hjl : j < ys.length
            · have hjj : (j : Int) < (ys.length : Int) := by omega
              have hcm := (HMEM.out ys[j]).1 (List.getElem_mem hjl)
              obtain ⟨ha1, ha2, hcx, t, u, ht, hu, hle⟩ := HBA.out _ hcm
              have hin2 := (HMEM2.out ys[j]).2 hcx
              obtain ⟨by_, oy, hlA, hby, hcy⟩ := HYI2.out j ys[j] (List.getElem?_eq_getElem hjl)
              subst hlA
              generalize ys[j] = s at *
              have hkeep : ∀ W, Below v2.heap.size v2 W → (W.cell? ⟨P, 0, none⟩ = some (.int .i64 n.stops) ∧ W.cell? ⟨P, 1, none⟩ = some (.slice n_tA n.tracks.length n_tc) ∧ W.cell? ⟨P, 2, none⟩ = some (.slice n_sA n.shops.length n_sc)) ∧ (W.cell? ⟨Q, 0, none⟩ = some (.slice (some ⟨gb, 0, none⟩) c.gauges.length c_gc) ∧ W.cell? ⟨Q, 1, none⟩ = some (.int .i64 c.size) ∧ W.cell? ⟨Q, 2, none⟩ = some (.int .i64 c.load) ∧ W.cell? ⟨Q, 3, none⟩ = some (.slice c_bA c.brakes.length c_bc) ∧ W.cell? ⟨Q, 4, none⟩ = some (.slice c_hA c.heats.length c_hc) ∧ W.cell? ⟨Q, 5, none⟩ = some (.bool c.hooks)) ∧ (W.cell? ⟨X, 0, none⟩ = some (.int .i64 x.stops) ∧ W.cell? ⟨X, 1, none⟩ = some (.slice tA3 x.tracks.length tc3) ∧ W.cell? ⟨X, 2, none⟩ = some (.slice A2 x.shops.length cp2)) ∧ (W.cell? ⟨K, 0, none⟩ = some (.slice d_gA e.gauges.length d_gc) ∧ W.cell? ⟨K, 1, none⟩ = some (.int .i64 e.size) ∧ W.cell? ⟨K, 2, none⟩ = some (.int .i64 e.load) ∧ W.cell? ⟨K, 3, none⟩ = some (.slice d_bA e.brakes.length d_bc) ∧ W.cell? ⟨K, 4, none⟩ = some (.slice d_hA e.heats.length d_hc) ∧ W.cell? ⟨K, 5, none⟩ = some (.bool e.hooks)) ∧ W.cell? ⟨by_, oy + j, none⟩ = some (.int .i64 s) := fun W h => by
                have h1 := blk_below XB15.out h (lt_of_block XB15.out)
                have h2 := blk_below KB15.out h (lt_of_block KB15.out)
                exact ⟨(D15.out.below h).ncells, (D15.out.below h).ccells, ⟨blk_cell h1 0, blk_cell h1 1, blk_cell h1 2⟩, ⟨blk_cell h2 0, blk_cell h2 1, blk_cell h2 2, blk_cell h2 3, blk_cell h2 4, blk_cell h2 5⟩, (h.cell (p := ⟨by_, oy + j, none⟩) hby).trans hcy⟩
              have HKP := Lib.hid hkeep
              have hc1 : ∀ W, Below v2.heap.size v2 W → Calls Try.prog 30 #[.agg #[.int .i64 n.stops, .slice n_tA n.tracks.length n_tc, .slice n_sA n.shops.length n_sc], .agg #[.slice (some ⟨gb, 0, none⟩) c.gauges.length c_gc, .int .i64 c.size, .int .i64 c.load, .slice c_bA c.brakes.length c_bc, .slice c_hA c.heats.length c_hc, .bool c.hooks], .int .i64 fr, .int .i64 ga, .int .i64 s] W (WayPost 0 (Pl.way n c fr ga s) W) := fun W h =>
                wayok_any n n_tA n_sA n_tc n_sc c (some ⟨gb, 0, none⟩) c_bA c_hA c_gc c_bc c_hc fr ga s W (D15.out.below h).nreads (D15.out.below h).creads ha1
              have hc2 : ∀ W, Below v2.heap.size v2 W → Calls Try.prog 30 #[.agg #[.int .i64 x.stops, .slice tA3 x.tracks.length tc3, .slice A2 x.shops.length cp2], .agg #[.slice d_gA e.gauges.length d_gc, .int .i64 e.size, .int .i64 e.load, .slice d_bA e.brakes.length d_bc, .slice d_hA e.heats.length d_hc, .bool e.hooks], .int .i64 fr, .int .i64 ga, .int .i64 s] W (WayPost 0 (Pl.way x e fr ga s) W) := fun W h =>
                wayok_any x tA3 A2 tc3 cp2 e d_gA d_bA d_hA d_gc d_bc d_hc fr ga s W ((XN15.out.below h).more h.size) ((KR15.out.below h).more h.size) ha2
              have HC1 := Lib.hid hc1
              have HC2 := Lib.hid hc2
              have hix : ¬ idx ms s < 0 := by have := (idx_ge ms s).2 hin2; omega
              have hle2 : ¬ t.km < u.km := by omega
              have HT := Lib.hid ht
              have HU := Lib.hid hu
              have hsr := hB.out.size
              have hyr : by_ < wr.heap.size := by omega
              have hbd : Below v2.heap.size v2 wr.drew := hB.out.drew
              have HBD := Lib.hid hbd
              have hS := hkeep _ hbd
              have hPr := lt_of_block (D15.out.below hB.out).b4
              have hQr := lt_of_block (D15.out.below hB.out).b5
              have hXr2 : X < wr.heap.size := by have := lt_of_block XB15.out; omega
              have hKr2 : K < wr.heap.size := by have := lt_of_block KB15.out; omega
              clear hc1 hc2 hcm ha1 ha2 hcx hin2 hle ht hu hbd hcy hkeep
              go_wp2_with fail
              go_region_held3 (fun W => (W.cell? ⟨P, 0, none⟩ = some (.int .i64 n.stops) ∧ W.cell? ⟨P, 1, none⟩ = some (.slice n_tA n.tracks.length n_tc) ∧ W.cell? ⟨P, 2, none⟩ = some (.slice n_sA n.shops.length n_sc)) ∧ (W.cell? ⟨Q, 0, none⟩ = some (.slice (some ⟨gb, 0, none⟩) c.gauges.length c_gc) ∧ W.cell? ⟨Q, 1, none⟩ = some (.int .i64 c.size) ∧ W.cell? ⟨Q, 2, none⟩ = some (.int .i64 c.load) ∧ W.cell? ⟨Q, 3, none⟩ = some (.slice c_bA c.brakes.length c_bc) ∧ W.cell? ⟨Q, 4, none⟩ = some (.slice c_hA c.heats.length c_hc) ∧ W.cell? ⟨Q, 5, none⟩ = some (.bool c.hooks)) ∧ (W.cell? ⟨X, 0, none⟩ = some (.int .i64 x.stops) ∧ W.cell? ⟨X, 1, none⟩ = some (.slice tA3 x.tracks.length tc3) ∧ W.cell? ⟨X, 2, none⟩ = some (.slice A2 x.shops.length cp2)) ∧ (W.cell? ⟨K, 0, none⟩ = some (.slice d_gA e.gauges.length d_gc) ∧ W.cell? ⟨K, 1, none⟩ = some (.int .i64 e.size) ∧ W.cell? ⟨K, 2, none⟩ = some (.int .i64 e.load) ∧ W.cell? ⟨K, 3, none⟩ = some (.slice d_bA e.brakes.length d_bc) ∧ W.cell? ⟨K, 4, none⟩ = some (.slice d_hA e.heats.length d_hc) ∧ W.cell? ⟨K, 5, none⟩ = some (.bool e.hooks)) ∧ W.cell? ⟨by_, oy + j, none⟩ = some (.int .i64 s))
                (first | go_keep | exact hS)
                (first
                  | (go_at_call 30; refine (HC1.out _ HBD.out).mono ?_; rintro e' wA ⟨r1A, r1l, r1c, km1, r1, rfl, hba, _, _, hy1⟩; have HBA1 := Lib.hid (HBD.out.trans (hba.mono HBD.out.size)); have hS := HKP.out _ HBA1.out; have HY1 := Lib.hid hy1; clear hba hy1))
              obtain ⟨rfl, _, rfl, _⟩ := HY1.out t (by first | rfl | trivial) HT.out
              have hS := HKP.out _ HBA1.out.drew
              have hsA := HBA1.out.size
              have hyr : by_ < wA.heap.size := by omega
              have hXr2 : X < wA.heap.size := by have := lt_of_block XB15.out; omega
              have hKr2 : K < wA.heap.size := by have := lt_of_block KB15.out; omega
              clear HY1
              have hyy := (HKP.out _ HBA1.out).2.2.2.2
              go_wp2_with fail
              clear hyy
              go_region_held3 (fun W => (W.cell? ⟨P, 0, none⟩ = some (.int .i64 n.stops) ∧ W.cell? ⟨P, 1, none⟩ = some (.slice n_tA n.tracks.length n_tc) ∧ W.cell? ⟨P, 2, none⟩ = some (.slice n_sA n.shops.length n_sc)) ∧ (W.cell? ⟨Q, 0, none⟩ = some (.slice (some ⟨gb, 0, none⟩) c.gauges.length c_gc) ∧ W.cell? ⟨Q, 1, none⟩ = some (.int .i64 c.size) ∧ W.cell? ⟨Q, 2, none⟩ = some (.int .i64 c.load) ∧ W.cell? ⟨Q, 3, none⟩ = some (.slice c_bA c.brakes.length c_bc) ∧ W.cell? ⟨Q, 4, none⟩ = some (.slice c_hA c.heats.length c_hc) ∧ W.cell? ⟨Q, 5, none⟩ = some (.bool c.hooks)) ∧ (W.cell? ⟨X, 0, none⟩ = some (.int .i64 x.stops) ∧ W.cell? ⟨X, 1, none⟩ = some (.slice tA3 x.tracks.length tc3) ∧ W.cell? ⟨X, 2, none⟩ = some (.slice A2 x.shops.length cp2)) ∧ (W.cell? ⟨K, 0, none⟩ = some (.slice d_gA e.gauges.length d_gc) ∧ W.cell? ⟨K, 1, none⟩ = some (.int .i64 e.size) ∧ W.cell? ⟨K, 2, none⟩ = some (.int .i64 e.load) ∧ W.cell? ⟨K, 3, none⟩ = some (.slice d_bA e.brakes.length d_bc) ∧ W.cell? ⟨K, 4, none⟩ = some (.slice d_hA e.heats.length d_hc) ∧ W.cell? ⟨K, 5, none⟩ = some (.bool e.hooks)) ∧ W.cell? ⟨by_, oy + j, none⟩ = some (.int .i64 s))
                (first | go_keep | exact hS)
                (first
                  | (go_at_call 30; refine (HC2.out _ HBA1.out.drew).mono ?_; rintro e' wB ⟨r2A, r2l, r2c, km2, r2, rfl, hbb, _, _, hy2⟩; have HBB1 := Lib.hid (HBA1.out.drew.trans (hbb.mono HBA1.out.drew.size)); have hS := HKP.out _ HBB1.out; have HY2 := Lib.hid hy2; clear hbb hy2))
              obtain ⟨rfl, _, rfl, _⟩ := HY2.out u (by first | rfl | trivial) HU.out
              have hyy := (HKP.out _ HBB1.out).2.2.2.2
              have hyr : by_ < wB.heap.size := by have := HBB1.out.size; omega
              have HMI2 := Lib.hid ((HMI.out.below HBB1.out).more HBB1.out.size)
              clear HY2 hS
              go_wp2_with (go_at_call 29; refine (seat_any mA mcp ms s _ wB HMI2.out (by omega)).mono ?_; rintro e' w' ⟨rfl, rfl⟩)
              go_roundw
              case rel => exact ⟨j + 1, by omega, by go_num, HBB1⟩
              case measure => simp [intOf]; omega
            · have hnj : ¬ (j : Int) < (ys.length : Int) := by omega
              have HWr := Lib.hid (HW15.out.trans (hB.out.mono HW15.out.size))
              go_wp2_with (go_at_call 25; refine (rolling_any _).mono ?_; rintro e' w15 ⟨rfl, hb15⟩)
              go_ret
              exact ⟨rfl, HWr.out.trans (hb15.mono HWr.out.size)⟩
end Go.Proofs.Ytpbjpochjagicaa
