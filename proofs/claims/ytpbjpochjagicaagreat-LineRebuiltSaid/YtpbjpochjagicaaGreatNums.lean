/- A law over one list of numbers that answers true and leaves old memory alone, as its row asks it. A law over nets, cars, numbers and lists of numbers that answers true and leaves old memory alone, as its row asks it. -/
import Derived.Test.YtpbjpochjagicaaGreatRows
import Derived.Test.YtpbjpochjagicaaGreatWd
import Derived.ProofKit
import Derived.OpenShut
import Derived.Below
import Derived.ChangeSame
import Derived.Carry
import Derived.Test.YtpbjpochjagicaaGreatW4
import Derived.Deep.Strs
namespace Go.Proofs.YtpbjpochjagicaaGreat
open Go.ChangeShapes Go.WideShapes Go.ChangeAt Go.RowKit

theorem own_knob : ownKnob Tryz.prog.godebug = none := by kernel_rfl
theorem laid_out : laidOutB Tryz.prog = true := by kernel_rfl
theorem cells_int : Tryz.prog.cellsOf 3 = 1 := by kernel_rfl
theorem readable_nums : Tryz.prog.readableRec 23 = true := by kernel_rfl
theorem nums_row : 23 < Tryz.prog.types.size := of_decide_eq_true (by kernel_rfl)

section
variable {H : Type} {enc : TypeId × Value → H} {P : Program}
theorem post_of_below {f : Func} {s : ChangeSpec} {apart fresh handsOn again : Bool} {W W' : World} {args : Array Value} {v : Value} {ds gs : List (DataW H)} {before pa pv : List MemPlace}
    (hW : DataW.Whole enc P f.params.toList s.vars apart W args.toList ds gs before)
    (hres : ∀ (b : Nat) (sp : Nat → Bool) (hd : Bool), DataW.TrodAll enc P W' b sp hd f.resultTypes.toList (v.resultList f.resultTypes.size) (s.fn H (ds ++ gs)).results [])
    (hargs : ∀ sp : Nat → Bool, (∀ p ∈ before, sp p.block = true) → DataW.TrodAll enc P W' 0 sp true f.params.toList args.toList (s.fn H (ds ++ gs)).args pa)
    (hvars : ∀ sp : Nat → Bool, (∀ p ∈ before, sp p.block = true) → DataW.TrodVars enc P W' sp s.vars (s.fn H (ds ++ gs)).vars pv)
    (hps : before = pa ++ pv) (hb : Below W.heap.size W W')
    (hok : ∀ (j : Nat) (t : TypeId) (r : Value), f.resultTypes[j]? = some t → (v.resultList f.resultTypes.size)[j]? = some r → Value.okWide P W' .any 0 t r) :
    s.post enc P f apart fresh handsOn again W args v W' := by
  have hlt : ∀ p ∈ before, p.block < W.heap.size := fun p hp => hW.lt p hp
  have hold : ∀ p ∈ before, (fun b => decide (b < W.heap.size)) p.block = true := fun p hp => by simpa using hlt p hp
  refine ⟨ds, gs, before, [], pa, pv, hW, hres _ _ _, hargs _ hold, hvars _ hold, World.keptBut_mono (fun p hp => ⟨hp, ?_⟩) (hb.frame (· ∈ before)), fun _ => ?_⟩
  · rw [hps, List.mem_append] at hp
    exact Or.inr hp
  · obtain ⟨_, _, _, _, _, hz, hn⟩ := hW
    refine ⟨hok, _, _, ([] ++ pa) ++ pv, ⟨[] ++ pa, pv, trodAll_append (hargs _ (fun _ _ => rfl)) (hres _ _ _), hvars _ (fun _ _ => rfl), rfl, ?_, ?_⟩, ?_⟩
    · intro b off hp
      have hin : MemPlace.cell b off ∈ before := by rw [hps]; simpa using hp
      rw [hb.frozen (hlt _ hin)]
      exact hz b off hin
    · intro ha
      have := hn ha
      rw [hps] at this
      simpa using this
    · intro p hp _
      rw [hps]
      simpa using hp
end

/-- What is walked of a law over one list of numbers. -/
def Walked (F : FuncId) : Prop := ∀ (A : Option Addr) (cp : Nat) (xs : List Int) (w : World), Ints w w.heap.size A xs → xs.length ≤ 9223372036854775807 →
  Calls Tryz.prog F #[.slice A xs.length cp] w fun e w' => e = .returned (.bool true) ∧ Below w.heap.size w w'

set_option maxRecDepth 100000 in
theorem nums_contract {F : FuncId} {fn : Func} {s : ChangeSpec} {apart fresh handsOn again : Bool} (hp : fn.params = #[23]) (hr : fn.resultTypes = #[4]) (hv : s.vars = [])
    (hs : ∀ (H : Type) (d : DataW H), (s.fn H [d]).results = [.lit (.bool true)] ∧ (s.fn H [d]).args = [d] ∧ (s.fn H [d]).vars = []) (hw : Walked F)
    (H : Type) (enc : TypeId × Value → H) (W : World) (base : Nat) (args : Array Value) (ds gs : List (DataW H)) (before : List MemPlace)
    (hval : ∀ (j : Nat) t v, fn.params[j]? = some t → args[j]? = some v → Value.okWide Tryz.prog W .any base t v)
    (hW : DataW.Whole enc Tryz.prog fn.params.toList s.vars apart W args.toList ds gs before) :
    Calls Tryz.prog F args W fun e W' => ∃ v, e = .returned v ∧ s.post enc Tryz.prog fn apart fresh handsOn again W args v W' := by
  have hW' := hW
  obtain ⟨p, q, hA0, hV, rfl, hfz, hnd⟩ := hW
  have hA : DataW.TrodAll enc Tryz.prog W 0 (fun _ => true) true fn.params.toList args.toList ds p := hA0
  rw [hp] at hA hval
  rw [hv] at hV
  obtain ⟨v0, d0, rfl, rfl, h0⟩ := trodAll_one hA
  obtain ⟨rfl, rfl⟩ := trodVars_none hV
  obtain ⟨a0, len, cap, rfl⟩ := okWide_slice Tryz.underlying23 (hval 0 23 v0 rfl rfl)
  have h0k := h0
  obtain ⟨fuel, hf⟩ := h0
  clear hA0
  simp only [List.append_nil] at hW'
  have hlt : ∀ x ∈ p, x.block < W.heap.size := fun x hx => by simpa using hW'.lt x hx
  have hclose : ∀ xs : List Int, xs.length = len → Ints W W.heap.size a0 xs → xs.length ≤ 9223372036854775807 →
      Calls Tryz.prog F #[.slice a0 len cap] W fun e W' => ∃ v, e = .returned v ∧ s.post enc Tryz.prog fn apart fresh handsOn again W #[.slice a0 len cap] v W' := fun xs hx hi hl => by
    subst hx
    refine (hw a0 cap xs W hi hl).mono fun e W' ⟨he, hb⟩ => ?_
    subst he
    obtain ⟨e1, e2, e3⟩ := hs H d0
    refine ⟨_, rfl, post_of_below (pa := p) (pv := []) hW' (fun b sp hd => ?_) (fun sp hsp => ?_) (fun sp _ => ?_) (by simp) hb (fun j t r hj hr2 => ?_)⟩
    · rw [hr]
      show DataW.TrodAll enc Tryz.prog W' b sp hd [4] [.bool true] (s.fn H [d0]).results []
      rw [e1]
      exact trodAll_cons_mk (shut_bool Tryz.underlying4 _) trodAll_mk0
    · rw [hp]
      show DataW.TrodAll enc Tryz.prog W' 0 sp true [23] [.slice a0 xs.length cap] (s.fn H [d0]).args p
      rw [e2]
      exact trodAll_mk1 (WideElems.Trod_stays laid_out readable_nums nums_row h0k (fun x hx => hb.same (hlt x hx)) (fun x hx => hsp x hx))
    · rw [hv]
      show DataW.TrodVars enc Tryz.prog W' sp [] (s.fn H [d0]).vars []
      rw [e3]
      rfl
    · exact ok_one hr rfl (okWide_bool_mk Tryz.underlying4 _) j t r hj hr2
  rcases open_ints Tryz.underlying23 Tryz.underlying3 cells_int hf with ⟨hcs, hx⟩ | ⟨a, len', cap', zs, hcs, _, hl, hm, hz, hx, hcell, hwz⟩
  · simp [Value.cells] at hcs
    obtain ⟨rfl, rfl, rfl⟩ := hcs
    exact hclose [] rfl (Ints.nil _ _ _) (by simp)
  · simp [Value.cells] at hcs
    obtain ⟨rfl, rfl, rfl⟩ := hcs
    simp only [if_true] at hz
    simp only [Prod.mk.injEq] at hx
    obtain ⟨_, rfl⟩ := hx
    have hlen : (zs.take len).length = len := by rw [List.length_take]; omega
    refine hclose (zs.take len) hlen (fun k x hk => ?_) (by rw [hlen]; simp only [maxLen] at hm; omega)
    have hkl : k < len := by
      have := (List.getElem?_eq_some_iff.1 hk).1
      omega
    have hkz : zs.getD k 0 = x := by
      rw [List.getElem?_take, if_pos hkl] at hk
      simp [List.getD_eq_getElem?_getD, hk]
    have hc := hcell k (by omega)
    rw [hkz] at hc
    obtain ⟨b, off, spot⟩ := a
    have hs0 : spot = none := by
      have := hcell 0 (by omega)
      simpa [Addr.add] using World.cell?_spot this
    subst hs0
    rw [add_plain] at hc
    exact ⟨b, off, rfl, hlt (.cell b off) (MemPlace.mem_row.2 ⟨0, by omega, by simp⟩), hc⟩
end Go.Proofs.YtpbjpochjagicaaGreat

namespace Go.Proofs.YtpbjpochjagicaaGreat
open Go.ChangeShapes Go.WideShapes Go.ChangeAt Go.RowKit Go.Deep

theorem cells_trk : Tryz.prog.cellsOf 107 = 9 := by kernel_rfl
theorem cells_bool : Tryz.prog.cellsOf 4 = 1 := by kernel_rfl
theorem cells_ints : Tryz.prog.cellsOf 23 = 1 := by kernel_rfl
theorem cells_trks : Tryz.prog.cellsOf 22 = 1 := by kernel_rfl
theorem cells_net : Tryz.prog.cellsOf 25 = 3 := by kernel_rfl
theorem cells_car : Tryz.prog.cellsOf 27 = 6 := by kernel_rfl
/-- the types and the offsets of a struct's fields. -/
def shape (P : Program) (t : TypeId) : Option (List (TypeId × Nat)) := match P.underlying t with
  | some (.struct fs) => some (fs.toList.map fun f => (f.type, f.offset))
  | _ => none
theorem shape_trk : shape Tryz.prog 107 = some [(3, 0), (3, 1), (3, 2), (3, 3), (3, 4), (3, 5), (3, 6), (3, 7), (4, 8)] := by kernel_rfl
theorem shape_net : shape Tryz.prog 25 = some [(3, 0), (22, 1), (23, 2)] := by kernel_rfl
theorem shape_car : shape Tryz.prog 27 = some [(23, 0), (3, 1), (3, 2), (23, 3), (23, 4), (4, 5)] := by kernel_rfl

section
variable {H : Type} {enc : TypeId × Value → H} {W : World} {base : Nat} {sp : Nat → Bool} {held : Bool}
set_option maxRecDepth 100000 in
theorem shape_open {P : Program} {t : TypeId} {l : List (TypeId × Nat)} {fuel : Nat} {cs : List Value} {x : DataW H × List MemPlace} (hs : shape P t = some l) (h : DataW.trod enc P W base sp held fuel t cs = some x) :
    cs.length = P.cellsOf t ∧ ∃ (n : Nat) (xs : List (DataW H × List MemPlace)), x.2 = xs.flatMap (·.2) ∧ ∀ (i : Nat) (f : TypeId × Nat), l[i]? = some f → ∃ y, xs[i]? = some y ∧ DataW.trod enc P W base sp held n f.1 ((cs.drop f.2).take (P.cellsOf f.1)) = some y := by
  unfold shape at hs
  split at hs
  · rename_i fs hu
    injection hs with hs
    obtain ⟨xs, n, _, rfl, hl, hxl, hf⟩ := DataW.trod_struct hu h
    refine ⟨hl, n, xs, rfl, fun i f hi => ?_⟩
    rw [← hs, List.getElem?_map] at hi
    cases hfi : fs.toList[i]? with
    | none => rw [hfi] at hi; cases hi
    | some g =>
      rw [hfi] at hi
      injection hi with hi
      subst hi
      have hg : fs[i]? = some g := by rw [← Array.getElem?_toList]; exact hfi
      have hlt : i < xs.length := by rw [hxl]; exact (Array.getElem?_eq_some_iff.1 hg).1
      exact ⟨xs[i], List.getElem?_eq_getElem hlt, by rw [hf i g hg, List.getElem?_eq_getElem hlt]⟩
  · cases hs
theorem part_lt {xs : List (DataW H × List MemPlace)} {B i : Nat} {y : DataW H × List MemPlace} (h : ∀ p ∈ xs.flatMap (·.2), p.block < B) (hy : xs[i]? = some y) : ∀ p ∈ y.2, p.block < B := fun p hp =>
  h p (List.mem_flatMap.2 ⟨y, List.mem_of_getElem? hy, hp⟩)

set_option maxRecDepth 100000 in
theorem open_nums {fuel : Nat} {cs : List Value} {x : DataW H × List MemPlace} (h : DataW.trod enc Tryz.prog W base (fun _ => true) held fuel 23 cs = some x) (hlt : ∀ p ∈ x.2, p.block < W.heap.size) :
    ∃ (A : Option Addr) (cp : Nat) (xs : List Int), cs = [.slice A xs.length cp] ∧ Ints W W.heap.size A xs ∧ xs.length ≤ 9223372036854775807 := by
  rcases open_ints Tryz.underlying23 Tryz.underlying3 cells_int h with ⟨hcs, hx⟩ | ⟨a, len, cap, zs, hcs, _, hl, hm, hz, hx, hcell, hwz⟩
  · exact ⟨none, 0, [], by rw [hcs]; rfl, Ints.nil _ _ _, by simp⟩
  · simp only [if_true] at hz
    subst hx
    have hlen : (zs.take len).length = len := by rw [List.length_take]; omega
    refine ⟨some a, cap, zs.take len, by rw [hcs, hlen], fun k x hk => ?_, by rw [hlen]; simp only [maxLen] at hm; omega⟩
    have hkl : k < len := by
      have := (List.getElem?_eq_some_iff.1 hk).1
      omega
    have hkz : zs.getD k 0 = x := by
      rw [List.getElem?_take, if_pos hkl] at hk
      simp [List.getD_eq_getElem?_getD, hk]
    have hc := hcell k (by omega)
    rw [hkz] at hc
    obtain ⟨b, off, spot⟩ := a
    have hs0 : spot = none := by
      have := hcell 0 (by omega)
      simpa [Addr.add] using World.cell?_spot this
    subst hs0
    rw [add_plain] at hc
    exact ⟨b, off, rfl, hlt (.cell b off) (MemPlace.mem_row.2 ⟨0, by omega, by simp⟩), hc⟩

theorem take_one {cs : List Value} {i n : Nat} {v : Value} (h : (cs.drop i).take n = [v]) : cs[i]? = some v := by
  cases n with
  | zero => simp at h
  | succ n =>
    have : (cs.drop i)[0]? = some v := by
      cases hd : cs.drop i with
      | nil => rw [hd] at h; simp at h
      | cons a l => rw [hd] at h; simp at h; simp [h.1]
    simpa using this

set_option maxRecDepth 100000 in
theorem open_trk {fuel : Nat} {cs : List Value} {x : DataW H × List MemPlace} (h : DataW.trod enc Tryz.prog W base sp held fuel 107 cs = some x) : ∃ q : Pl.Trk, cs = trkCells q := by
  obtain ⟨hl, n, xs, hx, hf⟩ := shape_open shape_trk h
  rw [cells_trk] at hl
  have num : ∀ i : Nat, i < 8 → ∃ k : Int, cs[i]? = some (.int .i64 k) := fun i hi => by
    have hi2 : ([(3, 0), (3, 1), (3, 2), (3, 3), (3, 4), (3, 5), (3, 6), (3, 7), (4, 8)] : List (TypeId × Nat))[i]? = some (3, i) := by
      match i, hi with
      | 0, _ => rfl
      | 1, _ => rfl
      | 2, _ => rfl
      | 3, _ => rfl
      | 4, _ => rfl
      | 5, _ => rfl
      | 6, _ => rfl
      | 7, _ => rfl
    obtain ⟨y, _, hy⟩ := hf i (3, i) hi2
    obtain ⟨k, hk, _⟩ := DataW.trod_int Tryz.underlying3 hy
    exact ⟨k, take_one hk⟩
  obtain ⟨y, _, hy⟩ := hf 8 (4, 8) rfl
  obtain ⟨b, hb, _⟩ := DataW.trod_bool Tryz.underlying4 hy
  have h8 := take_one hb
  obtain ⟨k0, h0⟩ := num 0 (by omega)
  obtain ⟨k1, h1⟩ := num 1 (by omega)
  obtain ⟨k2, h2⟩ := num 2 (by omega)
  obtain ⟨k3, h3⟩ := num 3 (by omega)
  obtain ⟨k4, h4⟩ := num 4 (by omega)
  obtain ⟨k5, h5⟩ := num 5 (by omega)
  obtain ⟨k6, h6⟩ := num 6 (by omega)
  obtain ⟨k7, h7⟩ := num 7 (by omega)
  refine ⟨⟨k0, k1, k2, k3, k4, k5, k6, k7, b⟩, ?_⟩
  match cs, hl with
  | [v0, v1, v2, v3, v4, v5, v6, v7, v8], _ =>
    simp at h0 h1 h2 h3 h4 h5 h6 h7 h8
    subst h0 h1 h2 h3 h4 h5 h6 h7 h8
    rfl

set_option maxRecDepth 100000 in
theorem open_trks {fuel : Nat} {cs : List Value} {x : DataW H × List MemPlace} (h : DataW.trod enc Tryz.prog W base (fun _ => true) held fuel 22 cs = some x) (hlt : ∀ p ∈ x.2, p.block < W.heap.size) :
    ∃ (A : Option Addr) (cp : Nat) (ts : List Pl.Trk), cs = [.slice A ts.length cp] ∧ Trks W W.heap.size A ts := by
  rcases open_slice Tryz.underlying22 h with ⟨hcs, hx⟩ | ⟨a, len, cap, m, n, D, Pp, rfl, hb, hl, hm, hmm, rfl, hx⟩
  · exact ⟨none, 0, [], by rw [hcs]; rfl, fun k t hk => by simp at hk⟩
  · simp only [if_true] at hmm
    subst hmm
    rw [cells_trk] at hx hlt
    have each : ∀ i, i < m → ∃ q : Pl.Trk, ∀ j v, (trkCells q)[j]? = some v → W.cell? (a.add (i * 9 + j)) = some v := fun i hi => by
      obtain ⟨cs', h1, h2⟩ := hx i hi
      obtain ⟨q, rfl⟩ := open_trk h2
      obtain ⟨_, hlen, hcell⟩ := World.cells?_some h1
      refine ⟨q, fun j v hj => ?_⟩
      have hj9 : j < 9 := (List.getElem?_eq_some_iff.1 hj).1
      have := hcell j hj9
      rw [add_add] at this
      rw [this, hj]
    obtain ⟨q, hq⟩ := choose_lt each
    refine ⟨some a, m, (List.range len).map q, by simp, fun k t hk => ?_⟩
    have hkl : k < len := by
      have := (List.getElem?_eq_some_iff.1 hk).1
      simpa using this
    have htq : q k = t := by
      rw [List.getElem?_map, List.getElem?_range hkl] at hk
      injection hk
    obtain ⟨b, off, spot⟩ := a
    have h0 := hq k (by omega) 0 _ rfl
    have hs0 : spot = none := by
      have := hq 0 (by omega) 0 _ rfl
      simpa [Addr.add] using World.cell?_spot this
    subst hs0
    refine ⟨b, off, rfl, hlt (.cell b off) (List.mem_append_left _ (MemPlace.mem_row.2 ⟨0, by omega, by simp⟩)), fun j v hj => ?_⟩
    rw [← htq] at hj
    have := hq k (by omega) j v hj
    rw [add_plain] at this
    rw [Nat.add_assoc]
    exact this
end

/-- What an argument is. -/
def Opened (W : World) (t : TypeId) (v : Value) : Prop :=
  (t = 25 ∧ ∃ (n : Pl.Nt) (n_tA n_sA : Option Addr) (n_tc n_sc : Nat), v = .agg #[.int .i64 n.stops, .slice n_tA n.tracks.length n_tc, .slice n_sA n.shops.length n_sc] ∧ Trks W W.heap.size n_tA n.tracks ∧ Ints W W.heap.size n_sA n.shops) ∨
  (t = 27 ∧ ∃ (c : Pl.Cch) (c_gA c_bA c_hA : Option Addr) (c_gc c_bc c_hc : Nat), v = .agg #[.slice c_gA c.gauges.length c_gc, .int .i64 c.size, .int .i64 c.load, .slice c_bA c.brakes.length c_bc, .slice c_hA c.heats.length c_hc, .bool c.hooks] ∧ Ints W W.heap.size c_gA c.gauges ∧ Ints W W.heap.size c_bA c.brakes ∧ Ints W W.heap.size c_hA c.heats) ∨
  (t = 3 ∧ ∃ k : Int, v = .int .i64 k) ∨
  (t = 23 ∧ ∃ (A : Option Addr) (cp : Nat) (xs : List Int), v = .slice A xs.length cp ∧ Ints W W.heap.size A xs ∧ xs.length ≤ 9223372036854775807)

section
variable {H : Type} {enc : TypeId × Value → H} {W : World}
theorem agg3 {cs : Array Value} {a b c : Value} (hl : cs.toList.length = 3) (h0 : cs.toList[0]? = some a) (h1 : cs.toList[1]? = some b) (h2 : cs.toList[2]? = some c) : Value.agg cs = .agg #[a, b, c] := by
  rcases cs with ⟨l⟩
  match l, hl with
  | [x, y, z], _ =>
    simp at h0 h1 h2
    subst h0 h1 h2
    rfl
theorem agg6 {cs : Array Value} {a b c d e f : Value} (hl : cs.toList.length = 6) (h0 : cs.toList[0]? = some a) (h1 : cs.toList[1]? = some b) (h2 : cs.toList[2]? = some c) (h3 : cs.toList[3]? = some d) (h4 : cs.toList[4]? = some e) (h5 : cs.toList[5]? = some f) :
    Value.agg cs = .agg #[a, b, c, d, e, f] := by
  rcases cs with ⟨l⟩
  match l, hl with
  | [x0, x1, x2, x3, x4, x5], _ =>
    simp at h0 h1 h2 h3 h4 h5
    subst h0 h1 h2 h3 h4 h5
    rfl
set_option maxRecDepth 100000 in
theorem opened_of {t : TypeId} {v : Value} {d : DataW H} {ps : List MemPlace} (ht : t = 25 ∨ t = 27 ∨ t = 3 ∨ t = 23) (hval : ∃ b, Value.okWide Tryz.prog W .any b t v) (h : DataW.Trod enc Tryz.prog W 0 (fun _ => true) true t v d ps) (hlt : ∀ p ∈ ps, p.block < W.heap.size) : Opened W t v := by
  obtain ⟨b0, hval⟩ := hval
  obtain ⟨fuel, h⟩ := h
  rcases ht with rfl | rfl | rfl | rfl
  · obtain ⟨cs, rfl, hsz⟩ : ∃ cs, v = .agg cs ∧ cs.size = Tryz.prog.cellsOf 25 := by
      unfold Value.okWide at hval
      rw [Tryz.underlying25] at hval
      obtain ⟨cs, h1, h2, _⟩ := hval
      exact ⟨cs, h1, h2⟩
    have h : DataW.trod enc Tryz.prog W 0 (fun _ => true) true fuel 25 cs.toList = some (d, ps) := by simpa [Value.cells] using h
    obtain ⟨hl, n, xs, hx, hf⟩ := shape_open shape_net h
    simp only at hx
    subst hx
    obtain ⟨y0, z0, g0⟩ := hf 0 (3, 0) rfl
    obtain ⟨y1, z1, g1⟩ := hf 1 (22, 1) rfl
    obtain ⟨y2, z2, g2⟩ := hf 2 (23, 2) rfl
    obtain ⟨k, e0, _⟩ := DataW.trod_int Tryz.underlying3 g0
    obtain ⟨tA, tc, ts, e1, ht⟩ := open_trks g1 (part_lt hlt z1)
    obtain ⟨sA, sc, ss, e2, hs, _⟩ := open_nums g2 (part_lt hlt z2)
    rw [cells_net] at hl
    exact .inl ⟨rfl, ⟨k, ts, ss⟩, tA, sA, tc, sc, agg3 hl (take_one e0) (take_one e1) (take_one e2), ht, hs⟩
  · obtain ⟨cs, rfl, hsz⟩ : ∃ cs, v = .agg cs ∧ cs.size = Tryz.prog.cellsOf 27 := by
      unfold Value.okWide at hval
      rw [Tryz.underlying27] at hval
      obtain ⟨cs, h1, h2, _⟩ := hval
      exact ⟨cs, h1, h2⟩
    have h : DataW.trod enc Tryz.prog W 0 (fun _ => true) true fuel 27 cs.toList = some (d, ps) := by simpa [Value.cells] using h
    obtain ⟨hl, n, xs, hx, hf⟩ := shape_open shape_car h
    simp only at hx
    subst hx
    obtain ⟨y0, z0, g0⟩ := hf 0 (23, 0) rfl
    obtain ⟨y1, z1, g1⟩ := hf 1 (3, 1) rfl
    obtain ⟨y2, z2, g2⟩ := hf 2 (3, 2) rfl
    obtain ⟨y3, z3, g3⟩ := hf 3 (23, 3) rfl
    obtain ⟨y4, z4, g4⟩ := hf 4 (23, 4) rfl
    obtain ⟨y5, z5, g5⟩ := hf 5 (4, 5) rfl
    obtain ⟨gA, gc, gs, e0, hg, _⟩ := open_nums g0 (part_lt hlt z0)
    obtain ⟨k1, e1, _⟩ := DataW.trod_int Tryz.underlying3 g1
    obtain ⟨k2, e2, _⟩ := DataW.trod_int Tryz.underlying3 g2
    obtain ⟨bA, bc, bs, e3, hb, _⟩ := open_nums g3 (part_lt hlt z3)
    obtain ⟨hA, hc, hs, e4, hh, _⟩ := open_nums g4 (part_lt hlt z4)
    obtain ⟨b, e5, _⟩ := DataW.trod_bool Tryz.underlying4 g5
    rw [cells_car] at hl
    exact .inr (.inl ⟨rfl, ⟨gs, k1, k2, bs, hs, b⟩, gA, bA, hA, gc, bc, hc, agg6 hl (take_one e0) (take_one e1) (take_one e2) (take_one e3) (take_one e4) (take_one e5), hg, hb, hh⟩)
  · obtain ⟨k, hk⟩ := okWide_int Tryz.underlying3 hval
    exact .inr (.inr (.inl ⟨rfl, k, hk⟩))
  · obtain ⟨a, len, cap, rfl⟩ := okWide_slice Tryz.underlying23 hval
    have h : DataW.trod enc Tryz.prog W 0 (fun _ => true) true fuel 23 [.slice a len cap] = some (d, ps) := by simpa [Value.cells] using h
    obtain ⟨A, cp, xs, e, hx, hl⟩ := open_nums h hlt
    injection e with e _
    exact .inr (.inr (.inr ⟨rfl, A, cp, xs, e, hx, hl⟩))

set_option maxRecDepth 100000 in
/-- Arguments of these types read again in new memory. -/
theorem all_stay {W' : World} {sp : Nat → Bool} : ∀ {ts : List TypeId} {vs : List Value} {ds : List (DataW H)} {ps : List MemPlace}, (∀ t ∈ ts, Tryz.prog.readableRec t = true ∧ t < Tryz.prog.types.size) →
    DataW.TrodAll enc Tryz.prog W 0 (fun _ => true) true ts vs ds ps → (∀ p ∈ ps, W.sameAt W' p) → (∀ p ∈ ps, sp p.block = true) → DataW.TrodAll enc Tryz.prog W' 0 sp true ts vs ds ps
  | [], [], [], _, _, h, _, _ => h
  | t :: ts, v :: vs, d :: ds, _, ht, ⟨p, q, h1, h2, rfl⟩, hs, hp =>
    ⟨p, q, WideElems.Trod_stays laid_out (ht t (by simp)).1 (ht t (by simp)).2 h1 (fun x hx => hs x (by simp [hx])) (fun x hx => hp x (by simp [hx])),
      all_stay (fun u hu => ht u (by simp [hu])) h2 (fun x hx => hs x (by simp [hx])) (fun x hx => hp x (by simp [hx])), rfl⟩
set_option maxRecDepth 100000 in
theorem all_opened : ∀ {ts : List TypeId} {vs : List Value} {ds : List (DataW H)} {ps : List MemPlace}, (∀ t ∈ ts, t = 25 ∨ t = 27 ∨ t = 3 ∨ t = 23) → (∀ (j : Nat) t v, ts[j]? = some t → vs[j]? = some v → ∃ b, Value.okWide Tryz.prog W .any b t v) →
    DataW.TrodAll enc Tryz.prog W 0 (fun _ => true) true ts vs ds ps → (∀ p ∈ ps, p.block < W.heap.size) → vs.length = ts.length ∧ ds.length = ts.length ∧ ∀ (j : Nat) t v, ts[j]? = some t → vs[j]? = some v → Opened W t v
  | [], [], [], _, _, _, _, _ => ⟨rfl, rfl, fun j t v h => by simp at h⟩
  | t :: ts, v :: vs, d :: ds, _, ht, hv, ⟨p, q, h1, h2, rfl⟩, hp => by
    obtain ⟨a, b, c⟩ := all_opened (fun u hu => ht u (by simp [hu])) (fun j t v h1 h2 => hv (j + 1) t v (by simpa using h1) (by simpa using h2)) h2 (fun x hx => hp x (by simp [hx]))
    refine ⟨by simp [a], by simp [b], fun j u x hj hx => ?_⟩
    cases j with
    | zero =>
      simp at hj hx
      subst hj hx
      exact opened_of (ht t (by simp)) (hv 0 t v rfl rfl) h1 (fun x hx => hp x (by simp [hx]))
    | succ j => exact c j u x (by simpa using hj) (by simpa using hx)
end

/-- What is walked of a law over such arguments. -/
def WalkedAt (F : FuncId) (ts : List TypeId) : Prop := ∀ (vs : List Value) (w : World), vs.length = ts.length → (∀ (j : Nat) t v, ts[j]? = some t → vs[j]? = some v → Opened w t v) →
  Calls Tryz.prog F vs.toArray w fun e w' => e = .returned (.bool true) ∧ Below w.heap.size w w'

set_option maxRecDepth 100000 in
theorem door_contract {F : FuncId} {fn : Func} {s : ChangeSpec} {apart fresh handsOn again : Bool} (hp : ∀ t ∈ fn.params.toList, t = 25 ∨ t = 27 ∨ t = 3 ∨ t = 23) (hrow : ∀ t ∈ fn.params.toList, Tryz.prog.readableRec t = true ∧ t < Tryz.prog.types.size) (hr : fn.resultTypes = #[4]) (hv : s.vars = [])
    (hs : ∀ (H : Type) (ds : List (DataW H)), ds.length = fn.params.size → (s.fn H ds).results = [.lit (.bool true)] ∧ (s.fn H ds).args = ds ∧ (s.fn H ds).vars = []) (hw : WalkedAt F fn.params.toList)
    (H : Type) (enc : TypeId × Value → H) (W : World) (base : Nat) (args : Array Value) (ds gs : List (DataW H)) (before : List MemPlace)
    (hval : ∀ (j : Nat) t v, fn.params[j]? = some t → args[j]? = some v → Value.okWide Tryz.prog W .any base t v)
    (hW : DataW.Whole enc Tryz.prog fn.params.toList s.vars apart W args.toList ds gs before) :
    Calls Tryz.prog F args W fun e W' => ∃ v, e = .returned v ∧ s.post enc Tryz.prog fn apart fresh handsOn again W args v W' := by
  have hW' := hW
  obtain ⟨p, q, hA, hV, rfl, hfz, hnd⟩ := hW
  rw [hv] at hV
  obtain ⟨rfl, rfl⟩ := trodVars_none hV
  simp only [List.append_nil] at hW'
  have hlt : ∀ x ∈ p, x.block < W.heap.size := fun x hx => by simpa using hW'.lt x hx
  obtain ⟨h1, h2, h3⟩ := all_opened hp (fun j t v ht hv => ⟨base, hval j t v (by rw [← Array.getElem?_toList]; exact ht) (by rw [← Array.getElem?_toList]; exact hv)⟩) hA hlt
  refine (hw args.toList W h1 h3).mono fun e W' ⟨he, hb⟩ => ?_
  subst he
  obtain ⟨e1, e2, e3⟩ := hs H ds (by rw [h2]; simp)
  refine ⟨_, rfl, post_of_below (pa := p) (pv := []) hW' (fun b sp hd => ?_) (fun sp hsp => ?_) (fun sp _ => ?_) (by simp) hb (fun j t r hj hr2 => ?_)⟩
  · rw [hr]
    rw [List.append_nil, e1]
    exact trodAll_cons_mk (shut_bool Tryz.underlying4 _) trodAll_mk0
  · rw [List.append_nil, e2]
    exact all_stay hrow hA (fun x hx => hb.same (hlt x hx)) (fun x hx => hsp x hx)
  · rw [hv, List.append_nil, e3]
    rfl
  · exact ok_one hr rfl (okWide_bool_mk Tryz.underlying4 _) j t r hj hr2
end Go.Proofs.YtpbjpochjagicaaGreat
