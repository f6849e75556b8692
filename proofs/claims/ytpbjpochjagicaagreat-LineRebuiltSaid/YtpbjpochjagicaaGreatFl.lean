/- Operations of a drawn region that come up in any order among each other: each is met once, by what it leaves. Operations of a drawn region that come up in any order among each other: the rule with results that others end. -/
import Derived.Test.YtpbjpochjagicaaGreatRl
namespace Go.Proofs.YtpbjpochjagicaaGreat
open Go.RowKit

/-- An operation: its number, the slot that it writes, the operations on whose results it leans, and those whose facts it ends. -/
structure Early where
  i : Nat
  d : Nat
  dep : List Nat
  kill : List Nat
def floatOk (md : Region.Mode) (ops : Array Oper) (all : List Early) (target : Array Bool) : Nat → List Nat → Array Bool → Bool
  | 0, rem, listed => rem.isEmpty && listed == target
  | n + 1, rem, listed => !(Region.ready md ops listed).isEmpty && (Region.ready md ops listed).all fun i => rem.contains i && (match all.find? (fun e => e.i == i) with
    | none => false
    | some e => (e.dep.all fun j => !rem.contains j && all.all fun f => rem.contains f.i || !f.kill.contains j) && floatOk md ops all target n (rem.erase i) (listed.setIfInBounds i true))
section
variable {P : Program} {ops : Array Oper} {Q : Exit → Act → World → Prop} {md : Region.Mode} {S : World → Prop} {late : List Nat}

theorem wpAnyL_float (all : List Early) (F : Nat → Value → World → Prop) (G : World → Prop) (St : Nat → World → World → Prop) (a : Act) {target : Array Bool} {fuel0 : Nat}
    (hi : (all.map (·.i)).Nodup) (hd : (all.map (·.d)).Nodup) (hsz : ∀ e ∈ all, e.d < a.tmps.size) (hGS : ∀ w, G w → S w)
    (hst : ∀ e ∈ all, ∀ f ∈ all, f.i ∉ e.kill → ∀ v w w', St e.i w w' → F f.i v w → F f.i v w')
    (hop : ∀ e ∈ all, ∀ (a' : Act) (w' : World) (K' : Act → World → Prop), (∀ s, (∀ f ∈ all, f.d ≠ s) → a'.tmps[s]? = a.tmps[s]?) → a'.defers = a.defers → G w' → (∀ f ∈ all, f.i ∈ e.dep → ∃ v, a'.tmps[f.d]? = some v ∧ F f.i v w') →
      Hid (∀ v w'', St e.i w' w'' → G w'' → F e.i v w'' → K' (a'.put (some e.d) v) w'') → wpOp P ops Q e.i K' a' w')
    (hfin : ∀ (a' : Act) (w' : World), (∀ s, (∀ f ∈ all, f.d ≠ s) → a'.tmps[s]? = a.tmps[s]?) → a'.defers = a.defers → a'.tmps.size = a.tmps.size → G w' →
      (∀ f ∈ all, (∀ e ∈ all, f.i ∉ e.kill) → ∃ v, a'.tmps[f.d]? = some v ∧ F f.i v w') → wpAnyL P md ops Q S late fuel0 target a' w') :
    ∀ (n : Nat) (rem : List Nat) (listed : Array Bool) (a' : Act) (w' : World), floatOk md ops all target n rem listed = true → rem.Nodup → (∀ s, (∀ f ∈ all, f.d ≠ s) → a'.tmps[s]? = a.tmps[s]?) → a'.defers = a.defers → a'.tmps.size = a.tmps.size → G w' →
      (∀ f ∈ all, f.i ∉ rem → (∀ e ∈ all, e.i ∉ rem → f.i ∉ e.kill) → ∃ v, a'.tmps[f.d]? = some v ∧ F f.i v w') → wpAnyL P md ops Q S late (n + fuel0) listed a' w'
  | 0, rem, listed, a', w', hok, _, hag, hdf, hsa, hG, hF => by
    rw [Nat.zero_add]
    simp only [floatOk, Bool.and_eq_true, beq_iff_eq, List.isEmpty_iff] at hok
    obtain ⟨rfl, rfl⟩ := hok
    exact hfin a' w' hag hdf hsa hG (fun f hf hk => hF f hf (by simp) (fun e he _ => hk e he))
  | n + 1, rem, listed, a', w', hok, hnd, hag, hdf, hsa, hG, hF => by
    rw [Nat.add_right_comm]
    simp only [floatOk, Bool.and_eq_true, List.all_eq_true, Bool.not_eq_true', List.isEmpty_eq_false_iff] at hok
    obtain ⟨hne, hok⟩ := hok
    refine ⟨fun h => absurd h hne, fun j hj => ?_⟩
    obtain ⟨hrem, hrest⟩ := hok j hj
    have hrem : j ∈ rem := by simpa using hrem
    cases he : all.find? (fun e => e.i == j) with
    | none => rw [he] at hrest; cases hrest
    | some e =>
      rw [he] at hrest
      have hem := List.mem_of_find?_eq_some he
      have hej : e.i = j := by have := List.find?_some he; simpa using this
      subst hej
      obtain ⟨hdep, hrec⟩ := (Bool.and_eq_true _ _ ▸ hrest : _ ∧ _)
      have hdep := List.all_eq_true.1 hdep
      refine hop e hem a' w' _ hag hdf hG (fun f hf hfd => ?_) ?_
      · have h1 := hdep f.i hfd
        rw [Bool.and_eq_true] at h1
        obtain ⟨h1, h2⟩ := h1
        have h2 := List.all_eq_true.1 h2
        refine hF f hf (by simpa using h1) (fun g hg hgr hk => ?_)
        have := h2 g hg
        simp [hgr, hk] at this
      · intro v w'' hSt hG'' hFv
        refine ⟨fun _ => hGS _ hG'', ?_⟩
        refine wpAnyL_float all F G St a hi hd hsz hGS hst hop hfin n (rem.erase e.i) _ _ _ hrec (hnd.erase _) ?_ ?_ ?_ hG'' ?_
        · intro s hs
          show (a'.tmps.setIfInBounds e.d v)[s]? = _
          rw [Array.getElem?_setIfInBounds_ne (hs e hem)]
          exact hag s hs
        · exact hdf
        · show (a'.tmps.setIfInBounds e.d v).size = _
          rw [Array.size_setIfInBounds]
          exact hsa
        · intro f hf hfr hkill
          by_cases hfe : f.i = e.i
          · have hfe2 : f = e := by
              obtain ⟨k1, hk1, e1⟩ := List.getElem_of_mem hf
              obtain ⟨k2, hk2, e2⟩ := List.getElem_of_mem hem
              have : k1 = k2 := by
                have h3 : (all.map (·.i))[k1]'(by simpa using hk1) = (all.map (·.i))[k2]'(by simpa using hk2) := by simp [e1, e2, hfe]
                exact (List.getElem_inj hi).1 h3
              subst this
              rw [← e1, ← e2]
            subst hfe2
            refine ⟨v, ?_, hFv⟩
            show (a'.tmps.setIfInBounds f.d v)[f.d]? = _
            rw [Array.getElem?_setIfInBounds_self_of_lt (by rw [hsa]; exact hsz f hf)]
          · have hfr2 : f.i ∉ rem := fun h => hfr ((List.mem_erase_of_ne hfe).2 h)
            have hke : f.i ∉ e.kill := hkill e hem (fun h => by
              have := (List.Nodup.mem_erase_iff hnd).1 h
              exact this.1 rfl)
            obtain ⟨u, hu1, hu2⟩ := hF f hf hfr2 (fun g hg hgr => hkill g hg (fun h => hgr (List.mem_of_mem_erase h)))
            refine ⟨u, ?_, hst e hem f hf hke u _ _ hSt hu2⟩
            show (a'.tmps.setIfInBounds e.d v)[f.d]? = _
            have hdd : e.d ≠ f.d := fun h => by
              obtain ⟨k1, hk1, e1⟩ := List.getElem_of_mem hf
              obtain ⟨k2, hk2, e2⟩ := List.getElem_of_mem hem
              have : k1 = k2 := by
                have h3 : (all.map (·.d))[k1]'(by simpa using hk1) = (all.map (·.d))[k2]'(by simpa using hk2) := by simp [e1, e2, h]
                exact (List.getElem_inj hd).1 h3
              subst this
              exact hfe (by rw [← e1, ← e2])
            rw [Array.getElem?_setIfInBounds_ne hdd]
            exact hu1

/-- A frame told slot by slot. -/
theorem act_of {a a' : Act} : ∀ (l : List (Nat × Value)), a'.defers = a.defers → a'.tmps.size = a.tmps.size → (∀ s, (∀ x ∈ l, x.1 ≠ s) → a'.tmps[s]? = a.tmps[s]?) → (l.map (·.1)).Nodup → (∀ x ∈ l, a'.tmps[x.1]? = some x.2) →
    a' = l.foldl (fun b x => b.put (some x.1) x.2) a
  | l, hd, hs, hag, hnd, hv => by
    have key : ∀ (l : List (Nat × Value)) (b : Act), (l.map (·.1)).Nodup → b.tmps.size = a'.tmps.size → (∀ x ∈ l, a'.tmps[x.1]? = some x.2) → (l.foldl (fun b x => b.put (some x.1) x.2) b).defers = b.defers ∧ (l.foldl (fun b x => b.put (some x.1) x.2) b).tmps.size = b.tmps.size ∧
        (∀ s, (∀ x ∈ l, x.1 ≠ s) → (l.foldl (fun b x => b.put (some x.1) x.2) b).tmps[s]? = b.tmps[s]?) ∧ (∀ x ∈ l, (l.foldl (fun b x => b.put (some x.1) x.2) b).tmps[x.1]? = some x.2) := by
      intro l
      induction l with
      | nil => intro b _ _ _; exact ⟨rfl, rfl, fun _ _ => rfl, fun x hx => by simp at hx⟩
      | cons y l ih =>
        intro b hnd hsb hv
        rw [List.map_cons, List.nodup_cons] at hnd
        obtain ⟨h1, h2, h3, h4⟩ := ih (b.put (some y.1) y.2) hnd.2 (by show (b.tmps.setIfInBounds _ _).size = _; rw [Array.size_setIfInBounds]; exact hsb) (fun x hx => hv x (by simp [hx]))
        rw [List.foldl_cons]
        refine ⟨h1, by rw [h2]; show (b.tmps.setIfInBounds _ _).size = _; rw [Array.size_setIfInBounds], fun s hs => ?_, fun x hx => ?_⟩
        · rw [h3 s (fun x hx => hs x (by simp [hx]))]
          show (b.tmps.setIfInBounds _ _)[s]? = _
          rw [Array.getElem?_setIfInBounds_ne (hs y (by simp))]
        · rcases List.mem_cons.1 hx with rfl | hx
          · rw [h3 x.1 (fun z hz e => hnd.1 (List.mem_map.2 ⟨z, hz, e⟩))]
            show (b.tmps.setIfInBounds _ _)[x.1]? = _
            have hlt : x.1 < b.tmps.size := by
              rw [hsb]
              exact (Array.getElem?_eq_some_iff.1 (hv x (by simp))).1
            rw [Array.getElem?_setIfInBounds_self_of_lt hlt]
          · exact h4 x hx
    obtain ⟨h1, h2, h3, h4⟩ := key l a hnd hs.symm hv
    have ht : a'.tmps = (l.foldl (fun b x => b.put (some x.1) x.2) a).tmps := by
      apply Array.ext_getElem?
      intro s
      by_cases hm : ∃ x ∈ l, x.1 = s
      · obtain ⟨x, hx, rfl⟩ := hm
        rw [h4 x hx, hv x hx]
      · have hm2 : ∀ x ∈ l, x.1 ≠ s := fun x hx e => hm ⟨x, hx, e⟩
        rw [h3 s hm2, hag s hm2]
    have hdf : a'.defers = (l.foldl (fun b x => b.put (some x.1) x.2) a).defers := by rw [h1, hd]
    cases a' with
    | mk t d =>
      simp only at ht hdf
      rw [ht, hdf]
theorem eval_tmp {a : Act} {s : Nat} {v : Value} (h : a.tmps[s]? = some v) : a.eval (.tmp s) = v := by
  show a.tmps.getD s undef = v
  rw [Array.getD_eq_getD_getElem?, h]
  rfl
theorem getD_tmp {a : Act} {s : Nat} {v : Value} (h : a.tmps[s]? = some v) : a.tmps.getD s undef = v := eval_tmp h
end
end Go.Proofs.YtpbjpochjagicaaGreat

namespace Go.Proofs.YtpbjpochjagicaaGreat
open Go.RowKit
section
variable {P : Program} {ops : Array Oper} {Q : Exit → Act → World → Prop} {md : Region.Mode} {S : World → Prop} {late : List Nat}

theorem wpAnyL_float2 (all : List Early) (F : Nat → Value → World → Prop) (G : World → Prop) (St : Nat → World → World → Prop) (a : Act) {target : Array Bool} {fuel0 : Nat}
    (hi : (all.map (·.i)).Nodup) (hd : (all.map (·.d)).Nodup) (hsz : ∀ e ∈ all, e.d < a.tmps.size) (hGS : ∀ w, G w → S w)
    (hst : ∀ e ∈ all, ∀ f ∈ all, e.i ≠ f.i → f.i ∉ e.kill → e.i ∉ f.dep → ∀ v w w', St e.i w w' → F f.i v w → F f.i v w')
    (hop : ∀ e ∈ all, ∀ (a' : Act) (w' : World) (K' : Act → World → Prop), (∀ s, (∀ f ∈ all, f.d ≠ s) → a'.tmps[s]? = a.tmps[s]?) → a'.defers = a.defers → G w' → (∀ f ∈ all, f.i ∈ e.dep → ∃ v, a'.tmps[f.d]? = some v ∧ F f.i v w') →
      Hid (∀ v w'', St e.i w' w'' → G w'' → F e.i v w'' → K' (a'.put (some e.d) v) w'') → wpOp P ops Q e.i K' a' w')
    (hfin : ∀ (a' : Act) (w' : World), (∀ s, (∀ f ∈ all, f.d ≠ s) → a'.tmps[s]? = a.tmps[s]?) → a'.defers = a.defers → a'.tmps.size = a.tmps.size → G w' →
      (∀ f ∈ all, (∀ e ∈ all, f.i ∉ e.kill) → ∃ v, a'.tmps[f.d]? = some v ∧ F f.i v w') → wpAnyL P md ops Q S late fuel0 target a' w') :
    ∀ (n : Nat) (rem : List Nat) (listed : Array Bool) (a' : Act) (w' : World), floatOk md ops all target n rem listed = true → rem.Nodup → (∀ s, (∀ f ∈ all, f.d ≠ s) → a'.tmps[s]? = a.tmps[s]?) → a'.defers = a.defers → a'.tmps.size = a.tmps.size → G w' →
      (∀ f ∈ all, f.i ∉ rem → ∀ j ∈ f.dep, j ∉ rem) → (∀ f ∈ all, f.i ∉ rem → (∀ e ∈ all, e.i ∉ rem → f.i ∉ e.kill) → ∃ v, a'.tmps[f.d]? = some v ∧ F f.i v w') → wpAnyL P md ops Q S late (n + fuel0) listed a' w'
  | 0, rem, listed, a', w', hok, _, hag, hdf, hsa, hG, _, hF => by
    rw [Nat.zero_add]
    simp only [floatOk, Bool.and_eq_true, beq_iff_eq, List.isEmpty_iff] at hok
    obtain ⟨rfl, rfl⟩ := hok
    exact hfin a' w' hag hdf hsa hG (fun f hf hk => hF f hf (by simp) (fun e he _ => hk e he))
  | n + 1, rem, listed, a', w', hok, hnd, hag, hdf, hsa, hG, hD, hF => by
    rw [Nat.add_right_comm]
    simp only [floatOk, Bool.and_eq_true, List.all_eq_true, Bool.not_eq_true', List.isEmpty_eq_false_iff] at hok
    obtain ⟨hne, hok⟩ := hok
    refine ⟨fun h => absurd h hne, fun j hj => ?_⟩
    obtain ⟨hrem, hrest⟩ := hok j hj
    have hrem : j ∈ rem := by simpa using hrem
    cases he : all.find? (fun e => e.i == j) with
    | none => rw [he] at hrest; cases hrest
    | some e =>
      rw [he] at hrest
      have hem := List.mem_of_find?_eq_some he
      have hej : e.i = j := by have := List.find?_some he; simpa using this
      subst hej
      obtain ⟨hdep, hrec⟩ := (Bool.and_eq_true _ _ ▸ hrest : _ ∧ _)
      have hdep := List.all_eq_true.1 hdep
      refine hop e hem a' w' _ hag hdf hG (fun f hf hfd => ?_) ?_
      · have h1 := hdep f.i hfd
        rw [Bool.and_eq_true] at h1
        obtain ⟨h1, h2⟩ := h1
        have h2 := List.all_eq_true.1 h2
        refine hF f hf (by simpa using h1) (fun g hg hgr hk => ?_)
        have := h2 g hg
        simp [hgr, hk] at this
      · intro v w'' hSt hG'' hFv
        refine ⟨fun _ => hGS _ hG'', ?_⟩
        refine wpAnyL_float2 all F G St a hi hd hsz hGS hst hop hfin n (rem.erase e.i) _ _ _ hrec (hnd.erase _) ?_ ?_ ?_ hG'' ?_ ?_
        · intro s hs
          show (a'.tmps.setIfInBounds e.d v)[s]? = _
          rw [Array.getElem?_setIfInBounds_ne (hs e hem)]
          exact hag s hs
        · exact hdf
        · show (a'.tmps.setIfInBounds e.d v).size = _
          rw [Array.size_setIfInBounds]
          exact hsa
        · intro f hf hfr q hq hqr
          by_cases hfe : f.i = e.i
          · have hfe2 : f = e := by
              obtain ⟨k1, hk1, e1⟩ := List.getElem_of_mem hf
              obtain ⟨k2, hk2, e2⟩ := List.getElem_of_mem hem
              have : k1 = k2 := by
                have h3 : (all.map (·.i))[k1]'(by simpa using hk1) = (all.map (·.i))[k2]'(by simpa using hk2) := by simp [e1, e2, hfe]
                exact (List.getElem_inj hi).1 h3
              subst this
              rw [← e1, ← e2]
            subst hfe2
            have h1 := hdep q hq
            rw [Bool.and_eq_true] at h1
            have h2 : q ∉ rem := by simpa using h1.1
            exact h2 (List.mem_of_mem_erase hqr)
          · exact hD f hf (fun h => hfr ((List.mem_erase_of_ne hfe).2 h)) q hq (List.mem_of_mem_erase hqr)
        · intro f hf hfr hkill
          by_cases hfe : f.i = e.i
          · have hfe2 : f = e := by
              obtain ⟨k1, hk1, e1⟩ := List.getElem_of_mem hf
              obtain ⟨k2, hk2, e2⟩ := List.getElem_of_mem hem
              have : k1 = k2 := by
                have h3 : (all.map (·.i))[k1]'(by simpa using hk1) = (all.map (·.i))[k2]'(by simpa using hk2) := by simp [e1, e2, hfe]
                exact (List.getElem_inj hi).1 h3
              subst this
              rw [← e1, ← e2]
            subst hfe2
            refine ⟨v, ?_, hFv⟩
            show (a'.tmps.setIfInBounds f.d v)[f.d]? = _
            rw [Array.getElem?_setIfInBounds_self_of_lt (by rw [hsa]; exact hsz f hf)]
          · have hfr2 : f.i ∉ rem := fun h => hfr ((List.mem_erase_of_ne hfe).2 h)
            have hke : f.i ∉ e.kill := hkill e hem (fun h => by
              have := (List.Nodup.mem_erase_iff hnd).1 h
              exact this.1 rfl)
            obtain ⟨u, hu1, hu2⟩ := hF f hf hfr2 (fun g hg hgr => hkill g hg (fun h => hgr (List.mem_of_mem_erase h)))
            refine ⟨u, ?_, hst e hem f hf (Ne.symm hfe) hke (fun h => hD f hf hfr2 e.i h hrem) u _ _ hSt hu2⟩
            show (a'.tmps.setIfInBounds e.d v)[f.d]? = _
            have hdd : e.d ≠ f.d := fun h => by
              obtain ⟨k1, hk1, e1⟩ := List.getElem_of_mem hf
              obtain ⟨k2, hk2, e2⟩ := List.getElem_of_mem hem
              have : k1 = k2 := by
                have h3 : (all.map (·.d))[k1]'(by simpa using hk1) = (all.map (·.d))[k2]'(by simpa using hk2) := by simp [e1, e2, h]
                exact (List.getElem_inj hd).1 h3
              subst this
              exact hfe (by rw [← e1, ← e2])
            rw [Array.getElem?_setIfInBounds_ne hdd]
            exact hu1
end
end Go.Proofs.YtpbjpochjagicaaGreat
