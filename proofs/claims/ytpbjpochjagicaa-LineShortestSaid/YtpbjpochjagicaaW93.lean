/- Walks: walks, all ways gone through (by gen_walks.py). -/
import Derived.Test.YtpbjpochjagicaaSx
import Derived.Deep.DeepCutAuto
namespace Go.Proofs.Ytpbjpochjagicaa
open Go.RowKit

/-- What walks hands back: all ways, once all have been asked. -/
def WalksPost (n : Pl.Nt) (c : Pl.Cch) (opn : List Nat) (p0 : Pl.Place) (w : World) (e : Ending) (w' : World) : Prop :=
  ∃ (I : Nat) (A : Option Addr) (cc : Nat), e = .returned (.slice A (Pl.grow (Pl.run n c []) p0 opn I).length cc) ∧ OwnWks w' (w.heap.size + 1) A cc ((Pl.grow (Pl.run n c []) p0 opn I).map (toWk n c p0)) ∧
    (∀ j, j < I → j < (Pl.grow (Pl.run n c []) p0 opn j).length) ∧ (Pl.grow (Pl.run n c []) p0 opn I).length ≤ I ∧ Below w.heap.size w w'

theorem int_row2 {w : World} {base : Nat} {A : Option Addr} {c : Nat} {xs : List Int} (h : OwnInts w base A c xs) : ∀ k, (Value.slice A xs.length c).ownBlock = some k → ∃ cur, w.heap[k]? = some (.cells cur 3 (0, 0)) := fun k e => by
  rcases h.2 with ⟨hv, _⟩ | ⟨q, cap, cur, hv, hb, hh, _⟩
  · injection hv with hv _ _; subst hv; simp [Value.ownBlock] at e
  · injection hv with hv _ _
    subst hv
    simp [Value.ownBlock] at e
    subst e
    exact ⟨cur, hh⟩
theorem own_any (A : Option Addr) (k k' c : Nat) : (Value.slice A k c).ownBlock = (Value.slice A k' c).ownBlock := by cases A <;> rfl
theorem ints_again {B : Nat} {w : World} {A : Option Addr} {xs : List Int} (h : Ints w B A xs) (k : Nat) : Ints (w.drewN k) B A xs := h.drewN k
theorem own_again {w : World} {base : Nat} {A : Option Addr} {c : Nat} {xs : List Int} (h : OwnInts w base A c xs) (k : Nat) : OwnInts (w.drewN k) base A c xs := own_below h (below_again (Below.refl w.heap.size w) k) (Nat.le_refl _)
theorem quiet_left2 {P : Program} {f : FuncId} {args : Array Value} {w : World} {m n : Nat} {v : Value} (h : Calls P f args (w.drewN (m + n)) fun e w' => e = .returned v ∧ w.drewN (m + n) = w') :
    Calls P f args (w.drewN (m + n)) fun e w'' => e = .returned v ∧ ∃ k, w'' = w.drewN (m + k) := h.mono fun _ _ ⟨he, hm⟩ => ⟨he, n, hm.symm⟩
theorem run_in {m : Nat} {r : Pl.Step} : ∀ {l : List Nat} {p : Pl.Place}, Pl.RunOk m r p l → ∀ x ∈ Pl.ints l, 0 ≤ x ∧ x < (m : Int)
  | [], _, _, x, hx => by simp [Pl.ints] at hx
  | i :: l, p, h, x, hx => by
    simp only [Pl.ints, List.map_cons, List.mem_cons] at hx
    rcases hx with rfl | hx
    · have := h.1; exact ⟨by simp, by simp; omega⟩
    · exact run_in h.2.2 x hx
theorem wk_lit (w : World) (y : Wk) (A2 : Option Addr) (c2 L : Nat) (hL : y.way.length = L) : ∀ (j : Nat) (v : Value), (wkCell y A2 c2)[j]? = some v →
    (w.alloc (.cells #[.slice A2 L c2, .int .i64 y.stop, .int .i64 y.gauge, .int .i64 y.km, .int .i64 y.turn] 82)).cell? ⟨w.heap.size, j, none⟩ = some v := fun j v hv => by
  subst hL
  rw [blk_cell (heap_alloc_new _ _) j]
  simpa [wkCell] using hv
theorem wk_row {w : World} {H B b c : Nat} {A : Option Addr} {xs : List Int} (h : OwnInts w H A c xs) (h1 : B ≤ H) (h2 : b < H) : IntsN w (rowBlk B (some ⟨b, 0, none⟩)) A xs :=
  IntsN.of_own h fun q hq e => by
    rcases e with e | e
    · omega
    · have e2 : q = b := Option.some.inj e
      omega
theorem wpl_app_wk2 {P : Program} {w : World} {ops : Array Oper} {rest : List Oper} {o : Oper} {a : Act} {Q : Exit → Act → World → Prop} (hgd : o.guard = none) (s x : Operand) (t : TypeId)
    (ho : o.op = .call { callee := .builtin .append, args := #[s, x], argTypes := #[t, t] })
    (base : Nat) (ht : P.underlying t = some (.slice 82)) (hi : (P.info? 82).map (fun i => (i.zero, i.size, i.bytes)) = some (some (.agg #[.slice none 0 0, .int .i64 0, .int .i64 0, .int .i64 0, .int .i64 0]), 5, 56))
    (A : Option Addr) (c L : Nat) (ls : List Wk) (hL : ls.length = L) (hs : a.eval s = .slice A L c) (hown : OwnWks w base A c ls)
    (b c' : Nat) (y : Wk) (A' : Option Addr) (c2 : Nat) (hx : a.eval x = .slice (some ⟨b, 0, none⟩) 1 c') (hr : ∀ i v, (wkCell y A' c2)[i]? = some v → w.cell? ⟨b, i, none⟩ = some v)
    (hI : IntsN w (rowBlk base A) A' y.way) (hl : y.way.length ≤ 1000) (hlen : L ≤ 1000000) (hbase : base ≤ w.heap.size)
    (h : ∀ A2 c3 w', OwnWks w' base A2 c3 (ls ++ [y]) → w.grownBy w' (Value.slice A ls.length c).ownBlock → wpList P ops Q rest (a.put o.dst (.slice A2 (L + 1) c3)) w') : wpList P ops Q (o :: rest) a w := by
  subst hL
  exact wpl_app_wk hgd s x t ho base ht hi A c ls hs hown b c' y A' c2 hx hr hI hl hlen hbase h
def Z82o : Obj := .cells #[.slice none 0 0, .int .i64 0, .int .i64 0, .int .i64 0, .int .i64 0] 82 (0, 0)
/-- What the operations leave that make a way: 5 the copy of its list, 10 the line, 11 the list with the line, 28 the way, 29 its box. -/
def WkF (H : Nat) (way : List Int) (m en tg km cx : Int) (j : Nat) (v : Value) (W : World) : Prop :=
  (j = 5 → ∃ A c, v = .slice A way.length c ∧ OwnInts W H A c way) ∧
  (j = 10 → ∃ q, v = .slice (some ⟨q, 0, none⟩) 1 1 ∧ W.heap[q]? = some (.cells #[.int .i64 m] 3 (0, 0))) ∧
  (j = 11 → ∃ A c, v = .slice A (way.length + 1) c ∧ OwnInts W H A c (way ++ [m])) ∧
  (j = 28 → ∃ A c, v = .agg #[.slice A (way.length + 1) c, .int .i64 en, .int .i64 tg, .int .i64 km, .int .i64 cx] ∧ OwnInts W H A c (way ++ [m])) ∧
  (j = 29 → ∃ P2, v = .pointer (some ⟨P2, 0, none⟩) ∧ H ≤ P2 ∧ W.heap[P2]? = some Z82o)
section
variable {H : Nat} {way : List Int} {m en tg km cx : Int} {j : Nat} {v : Value} {W W' : World}
theorem WkF.step (hb : Below W.heap.size W W') (h : WkF H way m en tg km cx j v W) : WkF H way m en tg km cx j v W' :=
  ⟨fun e => by obtain ⟨a, c, h0, h1⟩ := h.1 e; exact ⟨a, c, h0, own_below h1 hb (Nat.le_refl _)⟩,
   fun e => by obtain ⟨q, h0, h1⟩ := h.2.1 e; exact ⟨q, h0, (hb.block q (lt_of_block h1)).trans h1⟩,
   fun e => by obtain ⟨a, c, h0, h1⟩ := h.2.2.1 e; exact ⟨a, c, h0, own_below h1 hb (Nat.le_refl _)⟩,
   fun e => by obtain ⟨a, c, h0, h1⟩ := h.2.2.2.1 e; exact ⟨a, c, h0, own_below h1 hb (Nat.le_refl _)⟩,
   fun e => by obtain ⟨p, h0, h1, h2⟩ := h.2.2.2.2 e; exact ⟨p, h0, h1, (hb.block p (lt_of_block h2)).trans h2⟩⟩
theorem WkF.m5 (h : ∃ A c, v = .slice A way.length c ∧ OwnInts W H A c way) : WkF H way m en tg km cx 5 v W := ⟨fun _ => h, fun e => absurd e (by decide), fun e => absurd e (by decide), fun e => absurd e (by decide), fun e => absurd e (by decide)⟩
theorem WkF.m10 (h : ∃ q, v = .slice (some ⟨q, 0, none⟩) 1 1 ∧ W.heap[q]? = some (.cells #[.int .i64 m] 3 (0, 0))) : WkF H way m en tg km cx 10 v W := ⟨fun e => absurd e (by decide), fun _ => h, fun e => absurd e (by decide), fun e => absurd e (by decide), fun e => absurd e (by decide)⟩
theorem WkF.m11 (h : ∃ A c, v = .slice A (way.length + 1) c ∧ OwnInts W H A c (way ++ [m])) : WkF H way m en tg km cx 11 v W := ⟨fun e => absurd e (by decide), fun e => absurd e (by decide), fun _ => h, fun e => absurd e (by decide), fun e => absurd e (by decide)⟩
theorem WkF.m28 (h : ∃ A c, v = .agg #[.slice A (way.length + 1) c, .int .i64 en, .int .i64 tg, .int .i64 km, .int .i64 cx] ∧ OwnInts W H A c (way ++ [m])) : WkF H way m en tg km cx 28 v W := ⟨fun e => absurd e (by decide), fun e => absurd e (by decide), fun e => absurd e (by decide), fun _ => h, fun e => absurd e (by decide)⟩
theorem WkF.m29 (h : ∃ P2, v = .pointer (some ⟨P2, 0, none⟩) ∧ H ≤ P2 ∧ W.heap[P2]? = some Z82o) : WkF H way m en tg km cx 29 v W := ⟨fun e => absurd e (by decide), fun e => absurd e (by decide), fun e => absurd e (by decide), fun e => absurd e (by decide), fun _ => h⟩
/-- What a step does to memory: the append may write into rows of numbers. -/
def WkSt (e : Nat) (W W' : World) : Prop := if e = 11 then (∀ (b : Nat) (cs : Array Value) (t : TypeId), W.heap[b]? = some (.cells cs t (0, 0)) → t ≠ 3 → W'.heap[b]? = W.heap[b]?) else Below W.heap.size W W'
end

set_option maxRecDepth 100000 in
set_option maxHeartbeats 40000000 in
theorem walks_any (n : Pl.Nt) (n_tA n_sA : Option Addr) (n_tc n_sc : Nat) (c : Pl.Cch) (oA : Option Addr) (oc : Nat) (opn : List Nat) (fr g : Int) (w : World) (hn : NReads w w.heap.size n n_tA n_sA n_tc n_sc) (ho : Ints w w.heap.size oA (Pl.ints opn)) (hck : Pl.check n = 0) (hst4 : n.stops ≤ 4) (ht5 : n.tracks.length ≤ 5) (hs20 : n.shops.length ≤ 20)
    (hopm : ∀ k ∈ opn, k < n.tracks.length) (hopnd : opn.Nodup) (hopb : ∀ k ∈ opn, Pl.barred c (n.tracks.getD k default) = []) (hol : opn.length ≤ 5) (hf0 : 0 ≤ fr) (hf1 : fr ≤ n.stops - 1) (hg0 : 1 ≤ g) (hg1 : g ≤ 3) :
    Calls Try.prog 56 #[.agg #[.int .i64 n.stops, .slice n_tA n.tracks.length n_tc, .slice n_sA n.shops.length n_sc], .slice oA (Pl.ints opn).length oc, .int .i64 fr, .int .i64 g] w (WalksPost n c opn (fr, g) w) := by
  have hp0 : ((fr, g) : Pl.Place) ∈ Pl.stops4 := Pl.mem_stops4.2 ⟨by show 0 ≤ fr; omega, by show fr ≤ 3; omega, by show 1 ≤ g; omega, by show g ≤ 3; omega⟩
  have hfew := fun (i : Nat) hs => Pl.grow_few (n := n) (c := c) ht5 hopm hopnd (gets4 hck hst4 hp0) Pl.stops4_split i hs
  have HFEW := Lib.hid hfew
  have HWK : Hid (∀ (i : Nat) (l : List Nat), l ∈ Pl.grow (Pl.run n c []) (fr, g) opn i → WkIn n c (fr, g) l) := fun i l h => wk_in4 hck hst4 hp0 hopm h
  have HOPM := Lib.hid hopm
  have HOPB := Lib.hid hopb
  have HCK := Lib.hid hck
  clear hfew hopm hopb hck hopnd
  obtain ⟨w1, hw1⟩ : ∃ w1, w1 = (w.alloc (.cells #[.int .i64 n.stops, .slice n_tA n.tracks.length n_tc, .slice n_sA n.shops.length n_sc] 27)).alloc (.cells #[.slice none 0 0, .int .i64 fr, .int .i64 g, .int .i64 0, .int .i64 0] 82) := ⟨_, rfl⟩
  have hs0 : (w.alloc (.cells #[.int .i64 n.stops, .slice n_tA n.tracks.length n_tc, .slice n_sA n.shops.length n_sc] 27)).heap.size = w.heap.size + 1 := by simp
  have hs1 : w1.heap.size = w.heap.size + 2 := by rw [hw1]; simp
  have hb0 : Below w.heap.size w w1 := by rw [hw1]; exact ((Below.refl _ _).alloc (Nat.le_refl _) _).alloc (by simp) _
  have hbx : w1.heap[w.heap.size]? = some (.cells #[.int .i64 n.stops, .slice n_tA n.tracks.length n_tc, .slice n_sA n.shops.length n_sc] 27 (0, 0)) := by rw [hw1]; exact blk_alloc (heap_alloc_new w _) _
  have hown : OwnWks w1 (w.heap.size + 1) (some ⟨w.heap.size + 1, 0, none⟩) 1 ((Pl.grow (Pl.run n c []) (fr, g) opn 0).map (toWk n c (fr, g))) := by
    have := OwnWks.lit (w.alloc (.cells #[.int .i64 n.stops, .slice n_tA n.tracks.length n_tc, .slice n_sA n.shops.length n_sc] 27)) fr g 0 0
    rw [hs0] at this
    rw [hw1]
    exact this
  have HNR : Hid (∀ W, Below (w.heap.size + 1) w1 W → w1.heap.size ≤ W.heap.size → (W.cell? ⟨w.heap.size, 0, none⟩ = some (.int .i64 n.stops) ∧ W.cell? ⟨w.heap.size, 1, none⟩ = some (.slice n_tA n.tracks.length n_tc) ∧ W.cell? ⟨w.heap.size, 2, none⟩ = some (.slice n_sA n.shops.length n_sc)) ∧ NReads W W.heap.size n n_tA n_sA n_tc n_sc ∧ Ints W W.heap.size oA (Pl.ints opn)) := fun W hW hsz => by
    have h1 := blk_below hbx hW (by omega)
    exact ⟨⟨blk_cell h1 0, blk_cell h1 1, blk_cell h1 2⟩, ((hn.below hb0).below (hW.mono (by omega))).more (by omega), ((ho.below hb0).below (hW.mono (by omega))).more (by omega)⟩
  have HB0 := Lib.hid hb0
  have HS1 := Lib.hid hs1
  have HW1 := Lib.hid hw1
  have HOWN := Lib.hid hown
  clear hb0 hs1 hw1 hown hbx hn ho hs0
  go_enter Try.func56, Try.ntmps56
  go_upto_region 2 with fail
  rw [← HW1.out]
  go_wp2_with fail
  go_loopw [9, 10] (fun lv iv wr => ∃ (i : Nat) (A : Option Addr) (cc : Nat), iv = .int .i64 i ∧ lv = .slice A (Pl.grow (Pl.run n c []) (fr, g) opn i).length cc ∧ Hid (OwnWks wr (w.heap.size + 1) A cc ((Pl.grow (Pl.run n c []) (fr, g) opn i).map (toWk n c (fr, g)))) ∧ Hid (∀ j, j < i → j < (Pl.grow (Pl.run n c []) (fr, g) opn j).length) ∧ Hid (Below (w.heap.size + 1) w1 wr ∧ w1.heap.size ≤ wr.heap.size)) (fun _ i _ => 20000 - (intOf i).toNat)
  case atStart => exact ⟨0, _, 1, rfl, rfl, HOWN.out, fun j hj => absurd hj (Nat.not_lt_zero _), Below.refl _ _, Nat.le_refl _⟩
  case round =>
    obtain ⟨i, A, cc, rfl, rfl, hO, hI, hB⟩ := hrel
    clear HOWN
    by_cases hi : i < (Pl.grow (Pl.run n c []) (fr, g) opn i).length
    · have hI2 : Hid (∀ j, j < i + 1 → j < (Pl.grow (Pl.run n c []) (fr, g) opn j).length) := fun j hj => by
        rcases Nat.lt_succ_iff_lt_or_eq.1 hj with h | h
        · exact hI.out j h
        · rw [h]; exact hi
      have hlim := (HFEW.out (i + 1) hI2.out).1
      obtain ⟨l, hl⟩ : ∃ l, (Pl.grow (Pl.run n c []) (fr, g) opn i)[i]? = some l := ⟨_, List.getElem?_eq_getElem hi⟩
      have HIN := Lib.hid (HWK.out i l (List.mem_of_getElem? hl))
      have HL := Lib.hid hl
      have hii : (i : Int) < ((Pl.grow (Pl.run n c []) (fr, g) opn i).length : Int) := by omega
      have hi2 : (i : Int) < 20000 := by omega
      have HO0 : Hid (OwnWks wr (w.heap.size + 1) A cc ((Pl.growTo (Pl.run n c []) (fr, g) opn i l 0).map (toWk n c (fr, g)))) := by rw [Pl.growTo_zero]; exact hO
      have HE0 : Hid ((Pl.grow (Pl.run n c []) (fr, g) opn i).length = (Pl.growTo (Pl.run n c []) (fr, g) opn i l 0).length) := by rw [Pl.growTo_zero]; rfl
      have HGL : Hid ((Pl.grow (Pl.run n c []) (fr, g) opn i).length ≤ 19999) := (HFEW.out i hI.out).2
      clear hl hI hO
      go_wp2_with fail
      rw [HE0.out]
      go_loopw [9, 11] (fun lv kv wq => ∃ (k : Nat) (A : Option Addr) (cc : Nat), k ≤ opn.length ∧ kv = .int .i64 k ∧ lv = .slice A (Pl.growTo (Pl.run n c []) (fr, g) opn i l k).length cc ∧ Hid (OwnWks wq (w.heap.size + 1) A cc ((Pl.growTo (Pl.run n c []) (fr, g) opn i l k).map (toWk n c (fr, g)))) ∧ Hid (Below (w.heap.size + 1) w1 wq ∧ w1.heap.size ≤ wq.heap.size)) (fun _ k _ => opn.length - (intOf k).toNat)
      case atStart => exact ⟨0, A, cc, Nat.zero_le _, rfl, rfl, HO0, hB⟩
      case round =>
        obtain ⟨k, A, cc, hk, rfl, rfl, hO, hB⟩ := hrel
        clear HO0 HE0
        obtain ⟨wq, rfl⟩ : ∃ wq, wq = wr := ⟨_, rfl⟩
        by_cases hkl : k < opn.length
        · obtain ⟨m, hmk⟩ : ∃ m, opn[k] = m := ⟨_, rfl⟩
          have hmo : m ∈ opn := by rw [← hmk]; exact List.getElem_mem hkl
          have hm := HOPM.out m hmo
          have hmi : (m : Int) < (n.tracks.length : Int) := by omega
          have hkn : ((Pl.ints opn).length : Int) = (opn.length : Int) := by simp [Pl.ints]
          have hki : (k : Int) < (opn.length : Int) := by omega
          have hkj : (k : Int) < ((Pl.ints opn).length : Int) := by omega
          obtain ⟨hbx3, hnr, hop⟩ := HNR.out wq hB.out.1 hB.out.2
          obtain ⟨ob, oo, hoA, hob, hoc⟩ := hop k m (by simp [Pl.ints, List.getElem?_eq_getElem hkl, hmk])
          subst hoA
          have e0 : n.tracks.getD m default = n.tracks[m] := by simp [List.getD_eq_getElem?_getD, List.getElem?_eq_getElem hm]
          have hok := trk_at HCK.out hm
          obtain ⟨bt, ot, hAt, hbt, hct⟩ := hnr.tracks m n.tracks[m] (List.getElem?_eq_getElem hm)
          have hlt := hnr.lenT
          subst hAt
          obtain ⟨t, ht⟩ : ∃ t, n.tracks[m] = t := ⟨_, rfl⟩
          rw [e0, ht] at hok
          rw [ht] at hct
          have HE0 : Hid (n.tracks.getD m default = t) := e0.trans ht
          obtain ⟨t0, t1, t2, t3, t4, t5, t6, t7, t8⟩ := trk_cells (w := wq) (b := bt) (o := ot + m * 9) (fun i v hv => hct i v hv)
          have hpk := hO.out.pick (k := i) (x := toWk n c (fr, g) l) (by
            have h1 := (List.getElem?_eq_some_iff.1 HL.out).1
            rw [List.getElem?_map, Pl.growTo, List.getElem?_append_left h1, HL.out]
            rfl)
          obtain ⟨s, hs⟩ : ∃ s, (Pl.endOf (Pl.run n c []) (fr, g) l).1 = s := ⟨_, rfl⟩
          obtain ⟨u, hu⟩ : ∃ u, (Pl.endOf (Pl.run n c []) (fr, g) l).2 = u := ⟨_, rfl⟩
          obtain ⟨kx, hkx⟩ : ∃ x, Pl.kmOf n l = x := ⟨_, rfl⟩
          obtain ⟨cx, hcx⟩ : ∃ x, Pl.chOf (Pl.run n c []) (fr, g) l = x := ⟨_, rfl⟩
          have hin := HIN.out
          have hin1 := hin.s0
          have hin2 := hin.s1
          have hin3 := hin.k0
          have hin4 := hin.k1
          have hin5 := hin.c0
          have hin6 := hin.c1
          rw [hs] at hin1 hin2
          rw [hkx] at hin3 hin4
          rw [hcx] at hin5 hin6
          simp only [toWk, hs, hu, hkx, hcx] at hpk
          obtain ⟨b, A1, c1, hAb, hbb, hbl, hll, hpk⟩ := hpk
          subst hAb
          have HPK := Lib.hid hpk
          have HS := Lib.hid hs
          have HU := Lib.hid hu
          have HKX := Lib.hid hkx
          have HCX := Lib.hid hcx
          have HGI : Hid (Pl.growTo (Pl.run n c []) (fr, g) opn i l k = Pl.growTo (Pl.run n c []) (fr, g) opn i l k) := rfl
          have hGLl : Hid ((Pl.growTo (Pl.run n c []) (fr, g) opn i l k).length ≤ 20004) := by
            have h1 := Pl.growTo_len (r := Pl.run n c []) (p0 := (fr, g)) (opn := opn) (i := i) (l := l) (k := k)
            have h2 := HGL.out
            show _ ≤ _
            omega
          have hil : (i : Int) < ((Pl.growTo (Pl.run n c []) (fr, g) opn i l k).length : Int) := by
            have h1 := (List.getElem?_eq_some_iff.1 HL.out).1
            have : (Pl.grow (Pl.run n c []) (fr, g) opn i).length ≤ (Pl.growTo (Pl.run n c []) (fr, g) opn i l k).length := by rw [Pl.growTo, List.length_append]; omega
            omega
          have hzz := hB.out.2
          have hz1 := HS1.out
          have hbox : w.heap.size < wq.heap.size := by omega
          have hnew := heap_alloc_new wq (.cells #[.int .i64 t.a, .int .i64 t.b, .int .i64 t.km, .int .i64 t.gauge, .int .i64 t.room, .int .i64 t.brake, .int .i64 t.heat, .int .i64 t.load, .bool t.ferry] 47)
          have hz0 : (wq.alloc (.cells #[.int .i64 t.a, .int .i64 t.b, .int .i64 t.km, .int .i64 t.gauge, .int .i64 t.room, .int .i64 t.brake, .int .i64 t.heat, .int .i64 t.load, .bool t.ferry] 47)).drew.heap.size = wq.heap.size + 1 := by show (wq.alloc _).heap.size = _; simp
          have HBT : Hid (Below wq.heap.size wq (wq.alloc (.cells #[.int .i64 t.a, .int .i64 t.b, .int .i64 t.km, .int .i64 t.gauge, .int .i64 t.room, .int .i64 t.brake, .int .i64 t.heat, .int .i64 t.load, .bool t.ferry] 47)).drew) := ((Below.refl _ _).alloc (Nat.le_refl _) _).drew
          have HNEW : Hid ((wq.alloc (.cells #[.int .i64 t.a, .int .i64 t.b, .int .i64 t.km, .int .i64 t.gauge, .int .i64 t.room, .int .i64 t.brake, .int .i64 t.heat, .int .i64 t.load, .bool t.ferry] 47)).drew.heap[wq.heap.size]? = some (.cells #[.int .i64 t.a, .int .i64 t.b, .int .i64 t.km, .int .i64 t.gauge, .int .i64 t.room, .int .i64 t.brake, .int .i64 t.heat, .int .i64 t.load, .bool t.ferry] 47 (0, 0))) := hnew
          have HZ0 := Lib.hid hz0
          have HO2 := Lib.hid (hO.out.below HBT.out (Nat.le_refl _))
          have hba0 := hok.a0; have hba1 := hok.a1; have hbb0 := hok.b0; have hbb1 := hok.b1; have hbg0 := hok.g0; have hbg1 := hok.g1; have hbk0 := hok.km0; have hbk1 := hok.km1
          obtain ⟨z0, z1, z2⟩ := hbx3
          have HNQ := Lib.hid hnr
          have HOQ := Lib.hid hoc
          have HOB := Lib.hid hob
          clear hok e0 ht hct hpk hs hu hkx hcx hin hnr hop hnew hz0
          go_wp2_with fail
          go_region
          generalize (wq.alloc (.cells #[.int .i64 t.a, .int .i64 t.b, .int .i64 t.km, .int .i64 t.gauge, .int .i64 t.room, .int .i64 t.brake, .int .i64 t.heat, .int .i64 t.load, .bool t.ferry] 47)).drew = wt at HBT HO2 HZ0 HNEW ⊢
          clear z0 z1 z2 t0 t1 t2 t3 t4 t5 t6 t7 t8
          have hBW : ∀ W, Below wt.heap.size wt W → Below (w.heap.size + 1) w1 W ∧ w1.heap.size ≤ W.heap.size := fun W hW => by
            have h1 := HZ0.out
            have h2 := hW.size
            exact ⟨(hB.out.1.trans (HBT.out.mono (by omega))).trans (hW.mono (by omega)), by omega⟩
          have HBW := Lib.hid hBW
          have hkeep : ∀ W, Below wt.heap.size wt W → KeepIn (w.heap.size + 1) wq W := fun W hW => ((KeepIn.refl (w.heap.size + 1) wq).below HBT.out (Nat.le_refl _)).below hW (Nat.le_refl _)
          have hss : ∀ W, Below wt.heap.size wt W → ((W.cell? ⟨b, i * 5, none⟩ = some (.slice A1 (Pl.ints l).length c1) ∧ W.cell? ⟨b, i * 5 + 1, none⟩ = some (.int .i64 s) ∧ W.cell? ⟨b, i * 5 + 2, none⟩ = some (.int .i64 u) ∧ W.cell? ⟨b, i * 5 + 3, none⟩ = some (.int .i64 kx) ∧ W.cell? ⟨b, i * 5 + 4, none⟩ = some (.int .i64 cx)) ∧ (W.cell? ⟨wq.heap.size, 0, none⟩ = some (.int .i64 t.a) ∧ W.cell? ⟨wq.heap.size, 1, none⟩ = some (.int .i64 t.b) ∧ W.cell? ⟨wq.heap.size, 2, none⟩ = some (.int .i64 t.km) ∧ W.cell? ⟨wq.heap.size, 3, none⟩ = some (.int .i64 t.gauge)) ∧ W.cell? ⟨ob, oo + k, none⟩ = some (.int .i64 m) ∧ (W.cell? ⟨w.heap.size, 0, none⟩ = some (.int .i64 n.stops) ∧ W.cell? ⟨w.heap.size, 1, none⟩ = some (.slice (some ⟨bt, ot, none⟩) n.tracks.length n_tc) ∧ W.cell? ⟨w.heap.size, 2, none⟩ = some (.slice n_sA n.shops.length n_sc))) := fun W hW => by
            have h1 := blk_below HNEW.out hW (lt_of_block HNEW.out)
            have h2 := HNR.out W (hBW W hW).1 (hBW W hW).2
            have h3 := HPK.out W (hkeep W hW)
            have h4 : W.cell? ⟨ob, oo + k, none⟩ = some (.int .i64 m) := ((hW.cell (p := ⟨ob, oo + k, none⟩) (by have := HZ0.out; have := HOB.out; show ob < _; omega)).trans (HBT.out.cell (p := ⟨ob, oo + k, none⟩) HOB.out)).trans HOQ.out
            exact ⟨h3.1, ⟨blk_cell h1 0, blk_cell h1 1, blk_cell h1 2, blk_cell h1 3⟩, h4, h2.1⟩
          have HSS := Lib.hid hss
          have HIA : Hid (∀ W, Below wt.heap.size wt W → Ints W W.heap.size A1 (Pl.ints l)) := fun W hW => (HPK.out W (hkeep W hW)).2.more (by have := HZ0.out; have := hW.size; omega)
          have HNW : Hid (∀ W, Below wt.heap.size wt W → NReads W W.heap.size n (some ⟨bt, ot, none⟩) n_sA n_tc n_sc) := fun W hW => (HNR.out W (hBW W hW).1 (hBW W hW).2).2.1
          clear hBW hkeep hss HPK HOQ HOB HNEW hO
          by_cases he : s = t.a ∨ s = t.b
          · obtain ⟨⟨y0, y1, y2, y3, y4⟩, ⟨t0, t1, t2, t3⟩, o0, z0, z1, z2⟩ := HSS.out wt (Below.refl _ _)
            go_wp2_with fail
            go_quiet (fail)
            go_upto_if 52 with fail
            go_cut [13] (fun v wx => v = .int .i64 (if s = t.a then t.b else t.a) ∧ Hid (Below wt.heap.size wt wx))
            case first =>
              have HQ0 : Hid (∀ k, Below wt.heap.size wt (wt.drewN k)) := fun k => below_again (Below.refl _ _) k
              by_cases hsa : s = t.a
              · have hv : (s == t.a) = true := by rw [beq_iff_eq]; exact hsa
                have HV : Hid ((if s = t.a then t.b else t.a) = t.b) := if_pos hsa
                clear hsa he
                go_wp2_with fail
                go_meet
                exact ⟨by rw [HV.out], HQ0.out _⟩
              · have hsb : s = t.b := he.resolve_left hsa
                have hv : (s == t.a) = false := by rw [beq_eq_false_iff_ne]; exact hsa
                have hv2 : (s != t.b) = false := by simp [hsb]
                have HV : Hid ((if s = t.a then t.b else t.a) = t.a) := if_neg hsa
                clear hsa he hsb
                go_wp2_with fail
                go_quiet (fail)
                go_wp2_with fail
                go_meet
                exact ⟨by rw [HV.out], (by first | exact Lib.hid (HQ0.out _) | exact Lib.hid (below_again (HQ0.out _) _))⟩
            case rest =>
            obtain ⟨rfl, hB13⟩ := hcut
            obtain ⟨wv, rfl⟩ : ∃ wv, wv = wc := ⟨_, rfl⟩
            obtain ⟨en, hen⟩ : ∃ en, (if s = t.a then t.b else t.a) = en := ⟨_, rfl⟩
            rw [hen]
            have HEN := Lib.hid hen
            clear hen y0 y1 y2 y3 y4 t0 t1 t2 t3 o0 z0 z1 z2
            obtain ⟨⟨y0, y1, y2, y3, y4⟩, ⟨t0, t1, t2, t3⟩, o0, z0, z1, z2⟩ := HSS.out wv hB13.out
            have HST : Hid (∀ W, Below wv.heap.size wv W → Below wt.heap.size wt W) := fun W hW => hB13.out.trans (hW.mono hB13.out.size)
            go_wp2_with fail
            go_cut [14] (fun v wx => ∃ (P2 : Nat) (A2 : Option Addr) (c2 : Nat), v = .pointer (some ⟨P2, 0, none⟩) ∧ wv.heap.size ≤ P2 ∧ Hid (wx.heap[P2]? = some (.cells #[.slice A2 ((Pl.ints l).length + 1) c2, .int .i64 en, .int .i64 t.gauge, .int .i64 (kx + t.km), .int .i64 cx] 82 (0, 0))) ∧ Hid (OwnInts wx wv.heap.size A2 c2 (Pl.ints l ++ [(m : Int)])) ∧ Hid (Below wv.heap.size wv wx))
            case first =>
              have hS := HSS.out _ (HST.out _ (Below.refl _ _).drew)
              clear y0 y1 y2 y3 y4 t0 t1 t2 t3 o0 z0 z1 z2
              have hwk : IntKind.i64.wrap (kx + t.km) = kx + t.km := IntWalk.i64_in _ ⟨by omega, by omega⟩
              refine wp_region_L (by kernel_rfl) (fun W => ((W.cell? ⟨b, i * 5, none⟩ = some (.slice A1 (Pl.ints l).length c1) ∧ W.cell? ⟨b, i * 5 + 1, none⟩ = some (.int .i64 s) ∧ W.cell? ⟨b, i * 5 + 2, none⟩ = some (.int .i64 u) ∧ W.cell? ⟨b, i * 5 + 3, none⟩ = some (.int .i64 kx) ∧ W.cell? ⟨b, i * 5 + 4, none⟩ = some (.int .i64 cx)) ∧ (W.cell? ⟨wq.heap.size, 0, none⟩ = some (.int .i64 t.a) ∧ W.cell? ⟨wq.heap.size, 1, none⟩ = some (.int .i64 t.b) ∧ W.cell? ⟨wq.heap.size, 2, none⟩ = some (.int .i64 t.km) ∧ W.cell? ⟨wq.heap.size, 3, none⟩ = some (.int .i64 t.gauge)) ∧ W.cell? ⟨ob, oo + k, none⟩ = some (.int .i64 m) ∧ (W.cell? ⟨w.heap.size, 0, none⟩ = some (.int .i64 n.stops) ∧ W.cell? ⟨w.heap.size, 1, none⟩ = some (.slice (some ⟨bt, ot, none⟩) n.tracks.length n_tc) ∧ W.cell? ⟨w.heap.size, 2, none⟩ = some (.slice n_sA n.shops.length n_sc)))) [] ?_
              refine wpAnyL_take (i := 0) (v := ?v0) rfl (by kernel_rfl) (by kernel_rfl) (by kernel_rfl) (by kernel_rfl) (by rfl) (fun _ _ _ h => h) hS (Or.inl ⟨by rfl, ?hy0⟩) ?hr0
              case hy0 => (intro w hSw; (try dsimp only at hSw); go_simp; (try rfl))
              simp only [List.getElem_toArray, List.getElem_cons_zero, Act.put, List.setIfInBounds_toArray, List.set_cons_zero, List.set_cons_succ]
              refine wpAnyL_take (i := 1) (v := ?v1) rfl (by kernel_rfl) (by kernel_rfl) (by kernel_rfl) (by kernel_rfl) (by rfl) (fun _ _ _ h => h) hS (Or.inl ⟨by rfl, ?hy1⟩) ?hr1
              case hy1 => (intro w hSw; (try dsimp only at hSw); go_simp; (try rfl))
              simp only [List.getElem_toArray, List.getElem_cons_succ, List.getElem_cons_zero, Act.put, List.setIfInBounds_toArray, List.set_cons_zero, List.set_cons_succ]
              refine wpAnyL_take (i := 2) (v := ?v2) rfl (by kernel_rfl) (by kernel_rfl) (by kernel_rfl) (by kernel_rfl) (by rfl) (fun _ _ _ h => h) hS (Or.inl ⟨by rfl, ?hy2⟩) ?hr2
              case hy2 => (intro w hSw; (try dsimp only at hSw); go_simp; (try rfl))
              simp only [List.getElem_toArray, List.getElem_cons_succ, List.getElem_cons_zero, Act.put, List.setIfInBounds_toArray, List.set_cons_zero, List.set_cons_succ]
              refine wpAnyL_take (i := 3) (v := ?v3) rfl (by kernel_rfl) (by kernel_rfl) (by kernel_rfl) (by kernel_rfl) (by rfl) (fun _ _ _ h => h) hS (Or.inl ⟨by rfl, ?hy3⟩) ?hr3
              case hy3 => (intro w hSw; (try dsimp only at hSw); go_simp; (try rfl))
              simp only [List.getElem_toArray, List.getElem_cons_succ, List.getElem_cons_zero, Act.put, List.setIfInBounds_toArray, List.set_cons_zero, List.set_cons_succ]
              refine wpAnyL_take (i := 4) (v := ?v4) rfl (by kernel_rfl) (by kernel_rfl) (by kernel_rfl) (by kernel_rfl) (by rfl) (fun _ _ _ h => h) hS (Or.inl ⟨by rfl, ?hy4⟩) ?hr4
              case hy4 => (intro w hSw; (try dsimp only at hSw); go_simp; (try rfl))
              simp only [List.getElem_toArray, List.getElem_cons_succ, List.getElem_cons_zero, Act.put, List.setIfInBounds_toArray, List.set_cons_zero, List.set_cons_succ]
              refine wpAnyL_take (i := 6) (v := ?v6) rfl (by kernel_rfl) (by kernel_rfl) (by kernel_rfl) (by kernel_rfl) (by rfl) (fun _ _ _ h => h) hS (Or.inl ⟨by rfl, ?hy6⟩) ?hr6
              case hy6 => (intro w hSw; (try dsimp only at hSw); go_simp; (try rfl))
              simp only [List.getElem_toArray, List.getElem_cons_succ, List.getElem_cons_zero, Act.put, List.setIfInBounds_toArray, List.set_cons_zero, List.set_cons_succ]
              refine wpAnyL_take (i := 7) (v := ?v7) rfl (by kernel_rfl) (by kernel_rfl) (by kernel_rfl) (by kernel_rfl) (by rfl) (fun _ _ _ h => h) hS (Or.inl ⟨by rfl, ?hy7⟩) ?hr7
              case hy7 => (intro w hSw; (try dsimp only at hSw); go_simp; (try rfl))
              simp only [List.getElem_toArray, List.getElem_cons_succ, List.getElem_cons_zero, Act.put, List.setIfInBounds_toArray, List.set_cons_zero, List.set_cons_succ]
              refine wpAnyL_take (i := 8) (v := ?v8) rfl (by kernel_rfl) (by kernel_rfl) (by kernel_rfl) (by kernel_rfl) (by rfl) (fun _ _ _ h => h) hS (Or.inl ⟨by rfl, ?hy8⟩) ?hr8
              case hy8 => (intro w hSw; (try dsimp only at hSw); go_simp; (try rfl))
              simp only [List.getElem_toArray, List.getElem_cons_succ, List.getElem_cons_zero, Act.put, List.setIfInBounds_toArray, List.set_cons_zero, List.set_cons_succ]
              refine wpAnyL_take (i := 9) (v := ?v9) rfl (by kernel_rfl) (by kernel_rfl) (by kernel_rfl) (by kernel_rfl) (by rfl) (fun _ _ _ h => h) hS (Or.inl ⟨by rfl, ?hy9⟩) ?hr9
              case hy9 => (intro w hSw; (try dsimp only at hSw); go_simp; (try rfl))
              simp only [List.getElem_toArray, List.getElem_cons_succ, List.getElem_cons_zero, Act.put, List.setIfInBounds_toArray, List.set_cons_zero, List.set_cons_succ]
              refine wpAnyL_take (i := 12) (v := ?v12) rfl (by kernel_rfl) (by kernel_rfl) (by kernel_rfl) (by kernel_rfl) (by rfl) (fun _ _ _ h => h) hS (Or.inl ⟨by rfl, ?hy12⟩) ?hr12
              case hy12 => (intro w hSw; (try dsimp only at hSw); go_simp; (try rfl))
              simp only [List.getElem_toArray, List.getElem_cons_succ, List.getElem_cons_zero, Act.put, List.setIfInBounds_toArray, List.set_cons_zero, List.set_cons_succ]
              refine wpAnyL_take (i := 13) (v := ?v13) rfl (by kernel_rfl) (by kernel_rfl) (by kernel_rfl) (by kernel_rfl) (by rfl) (fun _ _ _ h => h) hS (Or.inl ⟨by rfl, ?hy13⟩) ?hr13
              case hy13 => (intro w hSw; (try dsimp only at hSw); go_simp; (try rfl))
              simp only [List.getElem_toArray, List.getElem_cons_succ, List.getElem_cons_zero, Act.put, List.setIfInBounds_toArray, List.set_cons_zero, List.set_cons_succ]
              refine wpAnyL_take (i := 14) (v := ?v14) rfl (by kernel_rfl) (by kernel_rfl) (by kernel_rfl) (by kernel_rfl) (by rfl) (fun _ _ _ h => h) hS (Or.inl ⟨by rfl, ?hy14⟩) ?hr14
              case hy14 => (intro w hSw; (try dsimp only at hSw); go_simp; (try rfl))
              simp only [List.getElem_toArray, List.getElem_cons_succ, List.getElem_cons_zero, Act.put, List.setIfInBounds_toArray, List.set_cons_zero, List.set_cons_succ]
              refine wpAnyL_take (i := 15) (v := ?v15) rfl (by kernel_rfl) (by kernel_rfl) (by kernel_rfl) (by kernel_rfl) (by rfl) (fun _ _ _ h => h) hS (Or.inl ⟨by rfl, ?hy15⟩) ?hr15
              case hy15 => (intro w hSw; (try dsimp only at hSw); go_simp; (try rfl))
              simp only [List.getElem_toArray, List.getElem_cons_succ, List.getElem_cons_zero, Act.put, List.setIfInBounds_toArray, List.set_cons_zero, List.set_cons_succ]
              refine wpAnyL_take (i := 16) (v := ?v16) rfl (by kernel_rfl) (by kernel_rfl) (by kernel_rfl) (by kernel_rfl) (by rfl) (fun _ _ _ h => h) hS (Or.inl ⟨by rfl, ?hy16⟩) ?hr16
              case hy16 => (intro w hSw; (try dsimp only at hSw); go_simp; (try rfl))
              simp only [List.getElem_toArray, List.getElem_cons_succ, List.getElem_cons_zero, Act.put, List.setIfInBounds_toArray, List.set_cons_zero, List.set_cons_succ]
              refine wpAnyL_take (i := 17) (v := ?v17) rfl (by kernel_rfl) (by kernel_rfl) (by kernel_rfl) (by kernel_rfl) (by rfl) (fun _ _ _ h => h) hS (Or.inl ⟨by rfl, ?hy17⟩) ?hr17
              case hy17 => (intro w hSw; (try dsimp only at hSw); go_simp; (try rfl))
              simp only [List.getElem_toArray, List.getElem_cons_succ, List.getElem_cons_zero, Act.put, List.setIfInBounds_toArray, List.set_cons_zero, List.set_cons_succ]
              refine wpAnyL_take (i := 18) (v := ?v18) rfl (by kernel_rfl) (by kernel_rfl) (by kernel_rfl) (by kernel_rfl) (by rfl) (fun _ _ _ h => h) hS (Or.inl ⟨by rfl, ?hy18⟩) ?hr18
              case hy18 => (intro w hSw; (try dsimp only at hSw); go_simp; (try rfl))
              simp only [List.getElem_toArray, List.getElem_cons_succ, List.getElem_cons_zero, Act.put, List.setIfInBounds_toArray, List.set_cons_zero, List.set_cons_succ]
              refine wpAnyL_take (i := 19) (v := ?v19) rfl (by kernel_rfl) (by kernel_rfl) (by kernel_rfl) (by kernel_rfl) (by rfl) (fun _ _ _ h => h) hS (Or.inl ⟨by rfl, ?hy19⟩) ?hr19
              case hy19 => (intro w hSw; (try dsimp only at hSw); go_simp; (try rfl))
              simp only [List.getElem_toArray, List.getElem_cons_succ, List.getElem_cons_zero, Act.put, List.setIfInBounds_toArray, List.set_cons_zero, List.set_cons_succ]
              refine wpAnyL_take (i := 20) (v := ?v20) rfl (by kernel_rfl) (by kernel_rfl) (by kernel_rfl) (by kernel_rfl) (by rfl) (fun _ _ _ h => h) hS (Or.inl ⟨by rfl, ?hy20⟩) ?hr20
              case hy20 => (intro w hSw; (try dsimp only at hSw); go_simp; (try rfl))
              simp only [List.getElem_toArray, List.getElem_cons_succ, List.getElem_cons_zero, Act.put, List.setIfInBounds_toArray, List.set_cons_zero, List.set_cons_succ]
              refine wpAnyL_take (i := 21) (v := ?v21) rfl (by kernel_rfl) (by kernel_rfl) (by kernel_rfl) (by kernel_rfl) (by rfl) (fun _ _ _ h => h) hS (Or.inl ⟨by rfl, ?hy21⟩) ?hr21
              case hy21 => (intro w hSw; (try dsimp only at hSw); go_simp; (try rfl))
              simp only [List.getElem_toArray, List.getElem_cons_succ, List.getElem_cons_zero, Act.put, List.setIfInBounds_toArray, List.set_cons_zero, List.set_cons_succ]
              refine wpAnyL_take (i := 22) (v := ?v22) rfl (by kernel_rfl) (by kernel_rfl) (by kernel_rfl) (by kernel_rfl) (by rfl) (fun _ _ _ h => h) hS (Or.inl ⟨by rfl, ?hy22⟩) ?hr22
              case hy22 => (intro w hSw; (try dsimp only at hSw); go_simp; (try rfl))
              simp only [List.getElem_toArray, List.getElem_cons_succ, List.getElem_cons_zero, Act.put, List.setIfInBounds_toArray, List.set_cons_zero, List.set_cons_succ]
              refine wpAnyL_take (i := 23) (v := ?v23) rfl (by kernel_rfl) (by kernel_rfl) (by kernel_rfl) (by kernel_rfl) (by rfl) (fun _ _ _ h => h) hS (Or.inl ⟨by rfl, ?hy23⟩) ?hr23
              case hy23 => (intro w hSw; (try dsimp only at hSw); go_simp; (try rfl))
              simp only [List.getElem_toArray, List.getElem_cons_succ, List.getElem_cons_zero, Act.put, List.setIfInBounds_toArray, List.set_cons_zero, List.set_cons_succ]
              refine wpAnyL_take (i := 24) (v := ?v24) rfl (by kernel_rfl) (by kernel_rfl) (by kernel_rfl) (by kernel_rfl) (by rfl) (fun _ _ _ h => h) hS (Or.inl ⟨by rfl, ?hy24⟩) ?hr24
              case hy24 => (intro w hSw; (try dsimp only at hSw); go_simp; (try rfl))
              simp only [List.getElem_toArray, List.getElem_cons_succ, List.getElem_cons_zero, Act.put, List.setIfInBounds_toArray, List.set_cons_zero, List.set_cons_succ]
              refine wpAnyL_take (i := 25) (v := ?v25) rfl (by kernel_rfl) (by kernel_rfl) (by kernel_rfl) (by kernel_rfl) (by rfl) (fun _ _ _ h => h) hS (Or.inl ⟨by rfl, ?hy25⟩) ?hr25
              case hy25 => (intro w hSw; (try dsimp only at hSw); go_simp; (try rfl))
              simp only [List.getElem_toArray, List.getElem_cons_succ, List.getElem_cons_zero, Act.put, List.setIfInBounds_toArray, List.set_cons_zero, List.set_cons_succ]
              refine wpAnyL_take (i := 26) (v := ?v26) rfl (by kernel_rfl) (by kernel_rfl) (by kernel_rfl) (by kernel_rfl) (by rfl) (fun _ _ _ h => h) hS (Or.inl ⟨by rfl, ?hy26⟩) ?hr26
              case hy26 => (intro w hSw; (try dsimp only at hSw); go_simp; (try rfl))
              simp only [List.getElem_toArray, List.getElem_cons_succ, List.getElem_cons_zero, Act.put, List.setIfInBounds_toArray, List.set_cons_zero, List.set_cons_succ]
              refine wpAnyL_take (i := 27) (v := ?v27) rfl (by kernel_rfl) (by kernel_rfl) (by kernel_rfl) (by kernel_rfl) (by rfl) (fun _ _ _ h => h) hS (Or.inl ⟨by rfl, ?hy27⟩) ?hr27
              case hy27 => (intro w hSw; (try dsimp only at hSw); go_simp; (try rfl))
              simp only [List.getElem_toArray, List.getElem_cons_succ, List.getElem_cons_zero, Act.put, List.setIfInBounds_toArray, List.set_cons_zero, List.set_cons_succ]
              clear hS
              have hG0 : Below wv.heap.size wv wv.drew := (Below.refl _ _).drew
              refine wpAnyL_float2 [⟨5, 68, [], []⟩, ⟨10, 73, [], []⟩, ⟨11, 74, [5, 10], [5, 10]⟩, ⟨28, 91, [11], []⟩, ⟨29, 14, [], []⟩] (WkF wv.heap.size (Pl.ints l) m en t.gauge (kx + t.km) cx) (fun W => Below wv.heap.size wv W) WkSt _
                (target := #[true, true, true, true, true, true, true, true, true, true, true, true, true, true, true, true, true, true, true, true, true, true, true, true, true, true, true, true, true, true, false]) (fuel0 := 1) (by decide) (by decide) (by simp) (fun W hW => HSS.out W (HST.out W hW))
                ?hst ?hop ?hfin 5 [5, 10, 11, 28, 29] _ _ _ (by kernel_rfl) (by decide) (fun _ _ => rfl) rfl rfl hG0 (by intro f hf; simp only [List.mem_cons, List.not_mem_nil, or_false] at hf; rcases hf with rfl | rfl | rfl | rfl | rfl <;> (intro h; simp at h)) (by intro f hf; simp only [List.mem_cons, List.not_mem_nil, or_false] at hf; rcases hf with rfl | rfl | rfl | rfl | rfl <;> (intro h; simp at h))
              case hst =>
                intro e he f hf hne hk hd v W W' hSt hF
                simp only [List.mem_cons, List.not_mem_nil, or_false] at he hf
                rcases he with rfl | rfl | rfl | rfl | rfl
                · exact hF.step (by simpa [WkSt] using hSt)
                · exact hF.step (by simpa [WkSt] using hSt)
                · rcases hf with rfl | rfl | rfl | rfl | rfl
                  · exact absurd hk (by simp)
                  · exact absurd hk (by simp)
                  · exact absurd rfl hne
                  · exact absurd hd (by simp)
                  · obtain ⟨p, h0, h1, h2⟩ := hF.2.2.2.2 rfl
                    have hSt : ∀ (b : Nat) (cs : Array Value) (t : TypeId), W.heap[b]? = some (.cells cs t (0, 0)) → t ≠ 3 → W'.heap[b]? = W.heap[b]? := by simpa [WkSt] using hSt
                    exact WkF.m29 ⟨p, h0, h1, (hSt p _ 82 h2 (by decide)).trans h2⟩
                · exact hF.step (by simpa [WkSt] using hSt)
                · exact hF.step (by simpa [WkSt] using hSt)
              case hop =>
                intro e he a' w' K' hag hdf hG hdep hK
                clear hdf
                simp only [List.mem_cons, List.not_mem_nil, or_false] at he
                rcases he with rfl | rfl | rfl | rfl | rfl
                · have q1 := (hag 67 (by simp)).trans (show _ = some (.slice A1 (Pl.ints l).length c1) from rfl)
                  have h1 := getD_tmp q1
                  refine wpOp_step rfl ?_
                  intro K2 hK2
                  have HK2 := Lib.hid hK2
                  clear hK2 hag hdep
                  go_simp
                  refine (copyInts_any A1 c1 (Pl.ints l) _ (HIA.out _ (HST.out _ hG)) hll).mono ?_
                  rintro e w5 ⟨A5, c5, rfl, ho5, hb5⟩
                  exact HK2.out _ _ (hK.out _ _ (show WkSt 5 _ _ from hb5) (hG.trans (hb5.mono hG.size)) (WkF.m5 ⟨A5, c5, rfl, own_less (b' := wv.heap.size) ho5 hG.size⟩))
                · have q1 := (hag 72 (by simp)).trans (show _ = some (.int .i64 m) from rfl)
                  have h1 := getD_tmp q1
                  refine wpOp_step rfl ?_
                  intro K2 hK2
                  have HK2 := Lib.hid hK2
                  clear hK2 hag hdep
                  go_simp
                  exact HK2.out _ _ (hK.out _ _ (show WkSt 10 _ _ from (Below.refl _ _).alloc (Nat.le_refl _) _) (hG.alloc hG.size _) (WkF.m10 ⟨_, rfl, heap_alloc_new _ _⟩))
                · obtain ⟨v5, g5, F5⟩ := hdep ⟨5, 68, [], []⟩ (by simp) (by simp)
                  obtain ⟨v10, g10, F10⟩ := hdep ⟨10, 73, [], []⟩ (by simp) (by simp)
                  obtain ⟨A5, c5, rfl, ho5⟩ := F5.1 rfl
                  obtain ⟨q, rfl, hq⟩ := F10.2.1 rfl
                  have e5 := eval_tmp g5
                  have e10 := eval_tmp g10
                  refine wpOp_step rfl ?_
                  intro K2 hK2
                  have hrow := int_row2 ho5
                  refine step_app_ints (by rfl) (.tmp 68) (.tmp 73) 22 (by rfl) wv.heap.size Try.underlying22 int_info A5 c5 (Pl.ints l) e5 ho5 (q + 1) (some ⟨q, 0, none⟩) 1 [(m : Int)] e10 (fun j x hj => ?_) (by simp; omega) hG.size ?_
                  · rcases j with _ | j
                    · simp at hj
                      subst hj
                      exact ⟨q, 0, rfl, by omega, blk_cell hq 0⟩
                    · simp at hj
                  · intro A2 c2 w3 hown3 hg3
                    refine hK2 _ _ ?_
                    have hx := hK.out (.slice A2 (Pl.ints l ++ [(m : Int)]).length c2) w3 (by
                      show WkSt 11 _ _
                      unfold WkSt
                      rw [if_pos rfl]
                      intro b cs tt hb htt
                      refine hg3.block b (lt_of_block hb) (fun e => ?_)
                      obtain ⟨cur, hcur⟩ := hrow b e.symm
                      rw [hb] at hcur
                      injection hcur with hcur
                      injection hcur with _ hcur _
                      exact htt hcur) (hG.grown hg3 hG.size (own_from ho5)) (WkF.m11 ⟨A2, c2, by simp, hown3⟩)
                    exact hx
                · obtain ⟨v11, g11, F11⟩ := hdep ⟨11, 74, [5, 10], [5, 10]⟩ (by simp) (by simp)
                  obtain ⟨A2, c2, rfl, ho2⟩ := F11.2.2.1 rfl
                  have h1 := getD_tmp g11
                  have q2 := (hag 75 (by simp)).trans (show _ = some (.int .i64 en) from rfl)
                  have h2 := getD_tmp q2
                  have q3 := (hag 77 (by simp)).trans (show _ = some (.int .i64 t.gauge) from rfl)
                  have h3 := getD_tmp q3
                  have q4 := (hag 85 (by simp)).trans (show _ = some (.int .i64 (kx + t.km)) from rfl)
                  have h4 := getD_tmp q4
                  have q5 := (hag 90 (by simp)).trans (show _ = some (.int .i64 cx) from rfl)
                  have h5 := getD_tmp q5
                  refine wpOp_step rfl ?_
                  intro K2 hK2
                  have HK2 := Lib.hid hK2
                  clear hK2 hag hdep
                  go_simp
                  exact HK2.out _ _ (hK.out _ _ (show WkSt 28 _ _ from Below.refl _ _) hG (WkF.m28 ⟨A2, c2, rfl, ho2⟩))
                · refine wpOp_step rfl ?_
                  intro K2 hK2
                  have HK2 := Lib.hid hK2
                  clear hK2 hag hdep
                  go_simp
                  exact HK2.out _ _ (hK.out _ _ (show WkSt 29 _ _ from (Below.refl _ _).alloc (Nat.le_refl _) _) (hG.alloc hG.size _) (WkF.m29 ⟨_, rfl, hG.size, heap_alloc_new _ _⟩))
              case hfin =>
                intro a' w' hag hdf hsz hG hF
                have hsz2 : a'.tmps.size = 124 := hsz
                obtain ⟨v1, g1⟩ : ∃ v, a'.tmps[68]? = some v := ⟨_, Array.getElem?_eq_getElem (by rw [hsz2]; decide)⟩
                obtain ⟨v2, g2⟩ : ∃ v, a'.tmps[73]? = some v := ⟨_, Array.getElem?_eq_getElem (by rw [hsz2]; decide)⟩
                obtain ⟨v3, g3⟩ : ∃ v, a'.tmps[74]? = some v := ⟨_, Array.getElem?_eq_getElem (by rw [hsz2]; decide)⟩
                obtain ⟨v4, g4, F4⟩ := hF ⟨28, 91, [11], []⟩ (by simp) (by simp)
                obtain ⟨v5, g5, F5⟩ := hF ⟨29, 14, [], []⟩ (by simp) (by simp)
                have ha := act_of [(68, v1), (73, v2), (74, v3), (91, v4), (14, v5)] hdf hsz (fun s hs => hag s (by simpa using hs)) (show ([68, 73, 74, 91, 14] : List Nat).Nodup by decide) (fun x hx => by simp only [List.mem_cons, List.not_mem_nil, or_false] at hx; rcases hx with rfl | rfl | rfl | rfl | rfl <;> first | exact g1 | exact g2 | exact g3 | exact g4 | exact g5)
                obtain ⟨A2, c2, rfl, ho2⟩ := F4.2.2.2.1 rfl
                obtain ⟨P2, rfl, hP2, hP⟩ := F5.2.2.2.2 rfl
                subst ha
                simp only [List.foldl_cons, List.foldl_nil, Act.put, List.setIfInBounds_toArray, List.set_cons_zero, List.set_cons_succ]
                have hl1 := lt_of_block hP
                have p0 : w'.cell? ⟨P2, 0, none⟩ = some (.slice none 0 0) := blk_cell hP 0
                have p1 : w'.cell? ⟨P2, 1, none⟩ = some (.int .i64 0) := blk_cell hP 1
                have p2 : w'.cell? ⟨P2, 2, none⟩ = some (.int .i64 0) := blk_cell hP 2
                have p3 : w'.cell? ⟨P2, 3, none⟩ = some (.int .i64 0) := blk_cell hP 3
                have p4 : w'.cell? ⟨P2, 4, none⟩ = some (.int .i64 0) := blk_cell hP 4
                have pf0 := blk_frozen hP 0
                have pf1 := blk_frozen hP 1
                have pf2 := blk_frozen hP 2
                have pf3 := blk_frozen hP 3
                have pf4 := blk_frozen hP 4
                have hbox := blk_set (blk_set (blk_set (blk_set (blk_set hP (i := 0) (.slice A2 ((Pl.ints l).length + 1) c2)) (i := 1) (.int .i64 en)) (i := 2) (.int .i64 t.gauge)) (i := 3) (.int .i64 (kx + t.km))) (i := 4) (.int .i64 cx)
                have hbe := ((((hG.setCell hP2 (.slice A2 ((Pl.ints l).length + 1) c2) (p := ⟨P2, 0, none⟩)).setCell hP2 (.int .i64 en) (p := ⟨P2, 1, none⟩)).setCell hP2 (.int .i64 t.gauge) (p := ⟨P2, 2, none⟩)).setCell hP2 (.int .i64 (kx + t.km)) (p := ⟨P2, 3, none⟩)).setCell hP2 (.int .i64 cx) (p := ⟨P2, 4, none⟩)
                have hne : ∀ {k : Nat}, (Value.slice A2 k c2).ownBlock ≠ some P2 := fun e => by
                  obtain ⟨cur, hcur⟩ := int_row2 ho2 P2 ((own_any A2 _ _ c2).trans e)
                  rw [hP] at hcur
                  injection hcur with hcur
                  injection hcur with _ hcur _
                  exact absurd hcur (by decide)
                have hoe := ownsRow_setCell_other (ownsRow_setCell_other (ownsRow_setCell_other (ownsRow_setCell_other (ownsRow_setCell_other ho2 hne (a := ⟨P2, 0, none⟩) (.slice A2 ((Pl.ints l).length + 1) c2)) hne (a := ⟨P2, 1, none⟩) (.int .i64 en)) hne (a := ⟨P2, 2, none⟩) (.int .i64 t.gauge)) hne (a := ⟨P2, 3, none⟩) (.int .i64 (kx + t.km))) hne (a := ⟨P2, 4, none⟩) (.int .i64 cx)
                have HBOX := Lib.hid hbox
                have HBE := Lib.hid hbe
                have HOE := Lib.hid hoe
                have HP2 := Lib.hid hP2
                clear hP ho2 hG hP2 F4 F5 g1 g2 g3 g4 g5 hag hdf hsz hsz2 hF hG0 hbox hbe hoe hne
                refine wpAnyL_one (i := 30) rfl (by kernel_rfl) ?_
                intro K hK
                have HK := Lib.hid hK
                clear hK
                go_simp
                refine HK.out.out _ _ (HSS.out _ (HST.out _ HBE.out)) (fun _ => ?_)
                clear HK K
                refine wpAnyL_done (by kernel_rfl) ?_
                try simp only [Act.put]
                go_wp2_with fail
                go_meet
                exact ⟨P2, A2, c2, rfl, HP2.out, Lib.hid (by simpa [Z82o] using HBOX.out), HOE, HBE⟩
            case rest =>
            obtain ⟨P2, A2, c2, rfl, hP2, hbox, hown, hB14⟩ := hcut
            obtain ⟨wz, rfl⟩ : ∃ wz, wz = wc := ⟨_, rfl⟩
            clear y0 y1 y2 y3 y4 t0 t1 t2 t3 o0 z0 z1 z2
            have HTZ := Lib.hid (HST.out _ hB14.out)
            obtain ⟨⟨y0, y1, y2, y3, y4⟩, ⟨t0, t1, t2, t3⟩, o0, z0, z1, z2⟩ := HSS.out wz HTZ.out
            have hwv : wt.heap.size ≤ wv.heap.size := hB13.out.size
            have hbar := HOPB.out m hmo
            have hq99 : Hid (∀ k, Below wz.heap.size wz (wz.drewN k)) := fun k => below_again (Below.refl _ _) k
            by_cases hstk : t.gauge ≠ u ∧ s ∉ n.shops
            · have hN : Hid (Pl.growTo (Pl.run n c []) (fr, g) opn i l (k + 1) = Pl.growTo (Pl.run n c []) (fr, g) opn i l k) := Pl.growTo_no hkl (by rw [hmk]; exact Pl.kid_stuck (by rw [HE0.out, HU.out]; exact hstk.1) (by rw [HS.out]; exact hstk.2))
              have hv : (t.gauge != u) = true := by rw [bne_iff_ne]; exact hstk.1
              have hix : decide (idx n.shops s < 0) = true := decide_eq_true ((idx_lt _ _).2 hstk.2)
              have hshr := HNW.out wz HTZ.out
              have HSH := Lib.hid hshr.shops
              have hsl : n.shops.length ≤ 9223372036854775807 := by omega
              clear hstk hbar hshr
              go_wp2_with fail
              go_quiet (fail)
              go_wp2_with fail
              go_quiet (first | (go_at_call 29; with_reducible refine quiet_left (seat_any n_sA n_sc n.shops s _ _ (ints_again HSH.out _) hsl)) | (go_at_call 29; with_reducible refine quiet_left2 (seat_any n_sA n_sc n.shops s _ _ (ints_again HSH.out _) hsl)))
              go_wp2_with fail
              go_roundw
              case rel => exact ⟨k + 1, _, cc, by omega, by go_num, (by rw [hN.out]), (by rw [hN.out]; exact (by first | exact Lib.hid (HO2.out.below (HTZ.out.trans ((hq99.out _).mono HTZ.out.size)) (Nat.le_refl _)) | exact Lib.hid (HO2.out.below (HTZ.out.trans ((below_again (hq99.out _) _).mono HTZ.out.size)) (Nat.le_refl _)))), (by first | exact Lib.hid (HBW.out _ (HTZ.out.trans ((hq99.out _).mono HTZ.out.size))) | exact Lib.hid (HBW.out _ (HTZ.out.trans ((below_again (hq99.out _) _).mono HTZ.out.size))))⟩
              case measure => simp [intOf]; omega
            · obtain ⟨tn, htn⟩ : ∃ tn, cx + (if t.gauge ≠ u then (1 : Int) else 0) = tn := ⟨_, rfl⟩
              obtain ⟨k1, k2, k3, k4⟩ := Pl.kid_on (p0 := (fr, g)) (l := l) (k := m) hbar (by rw [HS.out, HE0.out]; exact he) (by rw [HE0.out, HU.out, HS.out]; exact fun h => Decidable.byContradiction fun h2 => hstk ⟨h, h2⟩)
              rw [HE0.out, HS.out, HEN.out] at k1 k2
              rw [HE0.out, HKX.out] at k3
              rw [HE0.out, HU.out, HCX.out, htn] at k4
              have htn0 : 0 ≤ tn := by rw [← htn]; split <;> omega
              have htn1 : tn ≤ 12 := by rw [← htn]; split <;> omega
              have HY : Hid (toWk n c (fr, g) (l ++ [m]) = ⟨Pl.ints l ++ [(m : Int)], en, t.gauge, kx + t.km, tn⟩) := by
                show _ = _
                unfold toWk
                rw [k2, k3, k4]
                simp [Pl.ints]
              have HKD := Lib.hid k1
              have hmr := Pl.met_run (n := n) (c := c) m en t.gauge l (fr, g) HIN.out.run
              have hie : Pl.ints (l ++ [m]) = Pl.ints l ++ [(m : Int)] := by simp [Pl.ints]
              rw [hie] at hmr
              have HMR := Lib.hid hmr
              have hl11 := HIN.out.len
              have hil11 : (Pl.ints l).length ≤ 11 := by simpa [Pl.ints] using hl11
              have b0 := blk_cell hbox.out 0
              have b1 := blk_cell hbox.out 1
              have b2 := blk_cell hbox.out 2
              have b3 := blk_cell hbox.out 3
              have b4 := blk_cell hbox.out 4
              have bf4 := blk_frozen hbox.out 4
              replace b4 : wz.cell? ⟨P2, 4, none⟩ = some (.int .i64 cx) := b4
              clear k1 k2 k3 k4 hmr hie b0 b1 b2 b3 hbar
              go_wp2_with fail
              go_quiet (fail)
              go_upto_if 99 with fail
              go_cut [] (fun wx => Hid (wx.heap[P2]? = some (.cells #[.slice A2 ((Pl.ints l).length + 1) c2, .int .i64 en, .int .i64 t.gauge, .int .i64 (kx + t.km), .int .i64 tn] 82 (0, 0))) ∧ Hid (OwnInts wx wv.heap.size A2 c2 (Pl.ints l ++ [(m : Int)])) ∧ Hid (Below wv.heap.size wv wx))
              case first =>
                by_cases hgu : t.gauge = u
                · have hv : (t.gauge != u) = false := by simp [hgu]
                  have htc : cx = tn := by rw [← htn, if_neg (by simpa using hgu)]; omega
                  have HTC := Lib.hid htc
                  clear hgu hstk htn htc
                  go_wp2_with fail
                  go_meet
                  exact ⟨by rw [← HTC.out]; exact hbox, own_again hown.out _, Lib.hid (below_again hB14.out _)⟩
                · have hsh : s ∈ n.shops := Decidable.byContradiction fun h => hstk ⟨hgu, h⟩
                  have hv : (t.gauge != u) = true := by rw [bne_iff_ne]; exact hgu
                  have hix : decide (idx n.shops s < 0) = false := decide_eq_false (fun h => (idx_lt _ _).1 h hsh)
                  have htc : cx + 1 = tn := by rw [← htn, if_pos hgu]
                  have HTC := Lib.hid htc
                  have hshr := HNW.out wz HTZ.out
                  have HSH := Lib.hid hshr.shops
                  have hsl : n.shops.length ≤ 9223372036854775807 := by omega
                  have hc12 : cx + 1 ≤ 12 := by omega
                  clear hgu hstk htn htc hsh hshr
                  go_wp2_with fail
                  go_quiet (first | (go_at_call 29; with_reducible refine quiet_left (seat_any n_sA n_sc n.shops s _ _ (ints_again HSH.out _) hsl)) | (go_at_call 29; with_reducible refine quiet_left2 (seat_any n_sA n_sc n.shops s _ _ (ints_again HSH.out _) hsl)))
                  go_wp2_with fail
                  go_meet
                  have hne : ∀ {k : Nat}, (Value.slice A2 k c2).ownBlock ≠ some P2 := fun e => by
                    obtain ⟨cur, hcur⟩ := int_row2 hown.out P2 ((own_any A2 _ _ c2).trans e)
                    rw [hbox.out] at hcur
                    injection hcur with hcur
                    injection hcur with _ hcur _
                    exact absurd hcur (by decide)
                  refine ⟨Lib.hid ?_, Lib.hid (ownsRow_setCell_other (own_again hown.out _) hne _), Lib.hid ((below_again hB14.out _).setCell hP2 _)⟩
                  rw [← HTC.out]
                  simpa using blk_set (w := wz.drewN _) hbox.out (i := 4) (.int .i64 (cx + 1))
              case rest =>
              obtain ⟨hbox3, hown3, hB16⟩ := hcut
              obtain ⟨wy, rfl⟩ : ∃ wy, wy = wc := ⟨_, rfl⟩
              clear y0 y1 y2 y3 y4 t0 t1 t2 t3 o0 z0 z1 z2 b4 bf4 htn
              have HTY := Lib.hid (HST.out _ hB16.out)
              have hway : ∀ z ∈ Pl.ints l ++ [(m : Int)], 0 ≤ z ∧ z < (n.tracks.length : Int) := fun z hz => by
                rcases List.mem_append.1 hz with hz | hz
                · exact run_in HIN.out.run z hz
                · simp at hz; subst hz; exact ⟨by omega, hmi⟩
              have hmet := met_any n (some ⟨bt, ot, none⟩) n_sA n_tc n_sc ⟨Pl.ints l ++ [(m : Int)], en, t.gauge, kx + t.km, tn⟩ A2 c2 fr g wy (HNW.out wy HTY.out) (IntsN.of_own (S := fun _ => False) hown3.out (fun _ _ e => e)).ints (by rw [List.length_append]; show _ + 1 ≤ 1000; omega) hway HCK.out hf0 (by omega)
              simp only [List.length_append, List.length_cons, List.length_nil, Nat.zero_add] at hmet
              rw [HMR.out] at hmet
              obtain ⟨-, -, -, z0, z1, z2⟩ := HSS.out wy HTY.out
              have b0 : wy.cell? ⟨P2, 0, none⟩ = some (.slice A2 ((Pl.ints l).length + 1) c2) := blk_cell hbox3.out 0
              have b1 : wy.cell? ⟨P2, 1, none⟩ = some (.int .i64 en) := blk_cell hbox3.out 1
              have b2 : wy.cell? ⟨P2, 2, none⟩ = some (.int .i64 t.gauge) := blk_cell hbox3.out 2
              have b3 : wy.cell? ⟨P2, 3, none⟩ = some (.int .i64 (kx + t.km)) := blk_cell hbox3.out 3
              have b4 : wy.cell? ⟨P2, 4, none⟩ = some (.int .i64 tn) := blk_cell hbox3.out 4
              by_cases hd : (en, t.gauge) ∈ Pl.visits (Pl.run n c []) (fr, g) l
              · have hN : Hid (Pl.growTo (Pl.run n c []) (fr, g) opn i l (k + 1) = Pl.growTo (Pl.run n c []) (fr, g) opn i l k) := Pl.growTo_no hkl (by rw [hmk, HKD.out]; simp [hd])
                rw [decide_eq_true hd] at hmet
                have HMET := Lib.hid hmet
                clear hmet hd hstk hway
                go_wp2_with (go_at_call 98; refine HMET.out.mono ?_; rintro e w' ⟨rfl, hb⟩; have HBM := Lib.hid hb; clear hb)
                go_roundw
                case rel => exact ⟨k + 1, _, cc, by omega, by go_num, (by rw [hN.out]), (by rw [hN.out]; exact Lib.hid (HO2.out.below (HTY.out.trans (HBM.out.mono HTY.out.size)) (Nat.le_refl _))), Lib.hid (HBW.out _ (HTY.out.trans (HBM.out.mono HTY.out.size)))⟩
                case measure => simp [intOf]; omega
              · have hN : Hid (Pl.growTo (Pl.run n c []) (fr, g) opn i l (k + 1) = Pl.growTo (Pl.run n c []) (fr, g) opn i l k ++ [l ++ [m]]) := by
                  have h2 := Pl.growTo_yes (r := Pl.run n c []) (p0 := (fr, g)) (opn := opn) (i := i) (l := l) hkl (by rw [hmk, HKD.out]; simp [hd])
                  rw [hmk] at h2
                  exact h2
                rw [decide_eq_false hd] at hmet
                have HMET := Lib.hid hmet
                have hbP : b < P2 := by have := HZ0.out; omega
                clear hmet hd hstk hway
                go_wp2_with (first
                  | (go_at_call 98; refine HMET.out.mono ?_; rintro e w5 ⟨rfl, hb⟩; have HBM := Lib.hid hb; have HT5 := Lib.hid (HTY.out.trans (hb.mono HTY.out.size)); have hbx := blk_below hbox3.out hb (lt_of_block hbox3.out); have c0 : w5.cell? ⟨P2, 0, none⟩ = some (.slice A2 ((Pl.ints l).length + 1) c2) := blk_cell hbx 0; have c1' : w5.cell? ⟨P2, 1, none⟩ = some (.int .i64 en) := blk_cell hbx 1; have c2' : w5.cell? ⟨P2, 2, none⟩ = some (.int .i64 t.gauge) := blk_cell hbx 2; have c3' : w5.cell? ⟨P2, 3, none⟩ = some (.int .i64 (kx + t.km)) := blk_cell hbx 3; have c4' : w5.cell? ⟨P2, 4, none⟩ = some (.int .i64 tn) := blk_cell hbx 4; clear hb hbx b0 b1 b2 b3 b4 z0 z1 z2 HMET)
                  | (at_builtin; refine wpl_app_wk2 rfl (.tmp 119) (.tmp 121) 79 rfl (w.heap.size + 1) Try.underlying79 wk_info (some ⟨b, 0, none⟩) cc (Pl.growTo (Pl.run n c []) (fr, g) opn i l k).length ((Pl.growTo (Pl.run n c []) (fr, g) opn i l k).map (toWk n c (fr, g))) (List.length_map _) rfl ((HO2.out.below HT5.out (Nat.le_refl _)).alloc _) w5.heap.size 1 ⟨Pl.ints l ++ [(m : Int)], en, t.gauge, kx + t.km, tn⟩ A2 c2 rfl (wk_lit w5 _ A2 c2 _ (by simp)) (wk_row (own_alloc (own_below hown3.out HBM.out (Nat.le_refl _)) _) (by have := HZ0.out; omega) (by have := HZ0.out; omega)) (by rw [List.length_append]; show _ + 1 ≤ 1000; omega) (by have := hGLl.out; omega) (by have := HT5.out.size; have := HZ0.out; simp; omega) ?_; intro A3 c3 w6 ho6 hg6; have HO6 := Lib.hid ho6; have h66 := (HBW.out _ HT5.out); have h68 := h66.2; have h67 := (h66.1.alloc (by omega) _).grown hg6 (by have := h66.2; simp; omega) (fun q hq => ((HO2.out.below HT5.out (Nat.le_refl _)).from_ q hq).1); have HB6 := Lib.hid h67; clear ho6 hg6 h66 h67 h68))
                go_roundw
                case rel => exact ⟨k + 1, A3, c3, by omega, by go_num, (by rw [hN.out, List.length_append]; rfl), (by rw [hN.out, List.map_append, List.map_cons, List.map_nil, HY.out]; exact HO6), Lib.hid ⟨HB6.out, HB6.out.size⟩⟩
                case measure => simp [intOf]; omega
          · have hN : Hid (Pl.growTo (Pl.run n c []) (fr, g) opn i l (k + 1) = Pl.growTo (Pl.run n c []) (fr, g) opn i l k) := Pl.growTo_no hkl (by rw [hmk]; exact Pl.kid_away (by rw [HS.out, HE0.out]; exact fun e => he (.inl e)) (by rw [HS.out, HE0.out]; exact fun e => he (.inr e)))
            have hv : (s == t.a) = false := by rw [beq_eq_false_iff_ne]; exact fun e => he (.inl e)
            have hv2 : (s != t.b) = true := by rw [bne_iff_ne]; exact fun e => he (.inr e)
            have HQ0 : Hid (∀ k, Below wt.heap.size wt (wt.drewN k)) := fun k => below_again (Below.refl _ _) k
            obtain ⟨⟨y0, y1, y2, y3, y4⟩, ⟨t0, t1, t2, t3⟩, o0, z0, z1, z2⟩ := HSS.out wt (Below.refl _ _)
            clear he HSS HIA HNW HB0
            go_wp2_with fail
            go_quiet (fail)
            go_wp2_with fail
            go_quiet (fail)
            go_wp2_with fail
            go_roundw
            case rel => exact ⟨k + 1, _, cc, by omega, by go_num, (by rw [hN.out]), (by rw [hN.out]; exact Lib.hid (HO2.out.below (HQ0.out _) (Nat.le_refl _))), Lib.hid (HBW.out _ (HQ0.out _))⟩
            case measure => simp [intOf]; omega
        · obtain rfl : k = opn.length := by omega
          have HO1 := hO
          rw [Pl.growTo_all HL.out] at HO1
          have HE1 : Hid ((Pl.growTo (Pl.run n c []) (fr, g) opn i l opn.length).length = (Pl.grow (Pl.run n c []) (fr, g) opn (i + 1)).length) := by rw [Pl.growTo_all HL.out]; rfl
          have hkn : ((Pl.ints opn).length : Int) = (opn.length : Int) := by simp [Pl.ints]
          clear hO
          go_wp2_with fail
          go_roundw
          case rel => exact ⟨i + 1, A, cc, by go_num, (by rw [HE1.out]), HO1, hI2, hB⟩
          case measure => simp [intOf]; omega
    · have hIF := hI
      have hBF := Lib.hid (HB0.out.trans (hB.out.1.mono (by omega)))
      have hOF := hO
      have hle : Hid ((Pl.grow (Pl.run n c []) (fr, g) opn i).length ≤ i) := Nat.le_of_not_lt hi
      have hii : ¬ (i : Int) < ((Pl.grow (Pl.run n c []) (fr, g) opn i).length : Int) := by omega
      have hij : decide ((i : Int) < ((Pl.grow (Pl.run n c []) (fr, g) opn i).length : Int)) = false := decide_eq_false hii
      clear hI hB hO hi
      go_wp2_with fail
      go_ret
      exact ⟨i, A, cc, rfl, hOF.out, hIF.out, hle.out, hBF.out⟩
end Go.Proofs.Ytpbjpochjagicaa
