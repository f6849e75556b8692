/- A law over one list of numbers that answers true and leaves old memory alone, as its row asks it. -/
import Derived.Test.YtpbjpochjagicaaRows
import Derived.Test.YtpbjpochjagicaaWd
import Derived.ProofKit
import Derived.OpenShut
import Derived.Below
import Derived.ChangeSame
import Derived.Carry
namespace Go.Proofs.Ytpbjpochjagicaa
open Go.ChangeShapes Go.WideShapes Go.ChangeAt Go.RowKit

theorem own_knob : ownKnob Try.prog.godebug = none := by kernel_rfl
theorem laid_out : laidOutB Try.prog = true := by kernel_rfl
theorem cells_int : Try.prog.cellsOf 3 = 1 := by kernel_rfl
theorem readable_nums : Try.prog.readableRec 22 = true := by kernel_rfl
theorem nums_row : 22 < Try.prog.types.size := of_decide_eq_true (by kernel_rfl)

section
variable {H : Type} {enc : TypeId × Value → H} {P : Program}
theorem post_of_below {f : Func} {s : ChangeSpec} {apart fresh handsOn again : Bool} {W W' : World} {args : Array Value} {v : Value} {ds gs : List (DataW H)} {before pa pv : List MemPlace}
    (hW : DataW.Whole enc P f.params.toList s.vars apart W args.toList ds gs before)
    (hres : ∀ (b : Nat) (sp : Nat → Bool) (hd : Bool), DataW.TrodAll enc P W' b sp hd f.resultTypes.toList (v.resultList f.resultTypes.size) (s.fn H (ds ++ gs)).results [])
    (hargs : ∀ sp : Nat → Bool, (∀ p ∈ before, sp p.block = true) → DataW.TrodAll enc P W' 0 sp true f.params.toList args.toList (s.fn H (ds ++ gs)).args pa)
    (hvars : ∀ sp : Nat → Bool, (∀ p ∈ before, sp p.block = true) → DataW.TrodVars enc P W' sp s.vars (s.fn H (ds ++ gs)).vars pv)
    (hps : before = pa ++ pv) (hb : Below W.heap.size W W')
    (hok : ∀ (j : Nat) (t : TypeId) (r : Value), f.resultTypes[j]? = some t → (v.resultList f.resultTypes.size)[j]? = some r → Value.okWide P W' .any 0 t r) :
    s.post enc P f apart fresh handsOn again W args v W' := by
  have hlt : ∀ p ∈ before, p.block < W.heap.size := fun p hp => hW.lt p hp
  have hold : ∀ p ∈ before, (fun b => decide (b < W.heap.size)) p.block = true := fun p hp => by simpa using hlt p hp
  refine ⟨ds, gs, before, [], pa, pv, hW, hres _ _ _, hargs _ hold, hvars _ hold, World.keptBut_mono (fun p hp => ⟨hp, ?_⟩) (hb.frame (· ∈ before)), fun _ => ?_⟩
  · rw [hps, List.mem_append] at hp
    exact Or.inr hp
  · obtain ⟨_, _, _, _, _, hz, hn⟩ := hW
    refine ⟨hok, _, _, ([] ++ pa) ++ pv, ⟨[] ++ pa, pv, trodAll_append (hargs _ (fun _ _ => rfl)) (hres _ _ _), hvars _ (fun _ _ => rfl), rfl, ?_, ?_⟩, ?_⟩
    · intro b off hp
      have hin : MemPlace.cell b off ∈ before := by rw [hps]; simpa using hp
      rw [hb.frozen (hlt _ hin)]
      exact hz b off hin
    · intro ha
      have := hn ha
      rw [hps] at this
      simpa using this
    · intro p hp _
      rw [hps]
      simpa using hp
end

/-- What is walked of a law over one list of numbers. -/
def Walked (F : FuncId) : Prop := ∀ (A : Option Addr) (cp : Nat) (xs : List Int) (w : World), Ints w w.heap.size A xs → xs.length ≤ 9223372036854775807 →
  Calls Try.prog F #[.slice A xs.length cp] w fun e w' => e = .returned (.bool true) ∧ Below w.heap.size w w'

set_option maxRecDepth 100000 in
theorem nums_contract {F : FuncId} {fn : Func} {s : ChangeSpec} {apart fresh handsOn again : Bool} (hp : fn.params = #[22]) (hr : fn.resultTypes = #[4]) (hv : s.vars = [])
    (hs : ∀ (H : Type) (d : DataW H), (s.fn H [d]).results = [.lit (.bool true)] ∧ (s.fn H [d]).args = [d] ∧ (s.fn H [d]).vars = []) (hw : Walked F)
    (H : Type) (enc : TypeId × Value → H) (W : World) (base : Nat) (args : Array Value) (ds gs : List (DataW H)) (before : List MemPlace)
    (hval : ∀ (j : Nat) t v, fn.params[j]? = some t → args[j]? = some v → Value.okWide Try.prog W .any base t v)
    (hW : DataW.Whole enc Try.prog fn.params.toList s.vars apart W args.toList ds gs before) :
    Calls Try.prog F args W fun e W' => ∃ v, e = .returned v ∧ s.post enc Try.prog fn apart fresh handsOn again W args v W' := by
  have hW' := hW
  obtain ⟨p, q, hA0, hV, rfl, hfz, hnd⟩ := hW
  have hA : DataW.TrodAll enc Try.prog W 0 (fun _ => true) true fn.params.toList args.toList ds p := hA0
  rw [hp] at hA hval
  rw [hv] at hV
  obtain ⟨v0, d0, rfl, rfl, h0⟩ := trodAll_one hA
  obtain ⟨rfl, rfl⟩ := trodVars_none hV
  obtain ⟨a0, len, cap, rfl⟩ := okWide_slice Try.underlying22 (hval 0 22 v0 rfl rfl)
  have h0k := h0
  obtain ⟨fuel, hf⟩ := h0
  clear hA0
  simp only [List.append_nil] at hW'
  have hlt : ∀ x ∈ p, x.block < W.heap.size := fun x hx => by simpa using hW'.lt x hx
  have hclose : ∀ xs : List Int, xs.length = len → Ints W W.heap.size a0 xs → xs.length ≤ 9223372036854775807 →
      Calls Try.prog F #[.slice a0 len cap] W fun e W' => ∃ v, e = .returned v ∧ s.post enc Try.prog fn apart fresh handsOn again W #[.slice a0 len cap] v W' := fun xs hx hi hl => by
    subst hx
    refine (hw a0 cap xs W hi hl).mono fun e W' ⟨he, hb⟩ => ?_
    subst he
    obtain ⟨e1, e2, e3⟩ := hs H d0
    refine ⟨_, rfl, post_of_below (pa := p) (pv := []) hW' (fun b sp hd => ?_) (fun sp hsp => ?_) (fun sp _ => ?_) (by simp) hb (fun j t r hj hr2 => ?_)⟩
    · rw [hr]
      show DataW.TrodAll enc Try.prog W' b sp hd [4] [.bool true] (s.fn H [d0]).results []
      rw [e1]
      exact trodAll_cons_mk (shut_bool Try.underlying4 _) trodAll_mk0
    · rw [hp]
      show DataW.TrodAll enc Try.prog W' 0 sp true [22] [.slice a0 xs.length cap] (s.fn H [d0]).args p
      rw [e2]
      exact trodAll_mk1 (WideElems.Trod_stays laid_out readable_nums nums_row h0k (fun x hx => hb.same (hlt x hx)) (fun x hx => hsp x hx))
    · rw [hv]
      show DataW.TrodVars enc Try.prog W' sp [] (s.fn H [d0]).vars []
      rw [e3]
      rfl
    · exact ok_one hr rfl (okWide_bool_mk Try.underlying4 _) j t r hj hr2
  rcases open_ints Try.underlying22 Try.underlying3 cells_int hf with ⟨hcs, hx⟩ | ⟨a, len', cap', zs, hcs, _, hl, hm, hz, hx, hcell, hwz⟩
  · simp [Value.cells] at hcs
    obtain ⟨rfl, rfl, rfl⟩ := hcs
    exact hclose [] rfl (Ints.nil _ _ _) (by simp)
  · simp [Value.cells] at hcs
    obtain ⟨rfl, rfl, rfl⟩ := hcs
    simp only [if_true] at hz
    simp only [Prod.mk.injEq] at hx
    obtain ⟨_, rfl⟩ := hx
    have hlen : (zs.take len).length = len := by rw [List.length_take]; omega
    refine hclose (zs.take len) hlen (fun k x hk => ?_) (by rw [hlen]; simp only [maxLen] at hm; omega)
    have hkl : k < len := by
      have := (List.getElem?_eq_some_iff.1 hk).1
      omega
    have hkz : zs.getD k 0 = x := by
      rw [List.getElem?_take, if_pos hkl] at hk
      simp [List.getD_eq_getElem?_getD, hk]
    have hc := hcell k (by omega)
    rw [hkz] at hc
    obtain ⟨b, off, spot⟩ := a
    have hs0 : spot = none := by
      have := hcell 0 (by omega)
      simpa [Addr.add] using World.cell?_spot this
    subst hs0
    rw [add_plain] at hc
    exact ⟨b, off, rfl, hlt (.cell b off) (MemPlace.mem_row.2 ⟨0, by omega, by simp⟩), hc⟩
end Go.Proofs.Ytpbjpochjagicaa
